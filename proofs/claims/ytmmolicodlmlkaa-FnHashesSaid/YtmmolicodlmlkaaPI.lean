/-
  Parts of the proof: The library's merging by halves (symMerge), by contract: the general step. Printed by gen_stab3.py. No condition.
-/
import Derived.Test.YtmmolicodlmlkaaPH
set_option linter.unusedVariables false
set_option linter.unusedSimpArgs false
namespace Go.Proofs.Ytmmolicodlmlkaa
open Go.RowKit Go.Shelf
set_option linter.unusedVariables false
set_option linter.unusedSimpArgs false

/-- Between which places the halves may be parted. -/
def SymLo (a m b mid nn lo hi : Nat) : Prop := a ≤ lo ∧ lo ≤ hi ∧ hi ≤ m ∧ hi ≤ mid ∧ nn ≤ lo + b ∧ (lo = a ∨ nn - lo = b) ∧ (hi = m ∨ hi = mid)
theorem SymLo.le {a m b mid nn lo hi : Nat} (h : SymLo a m b mid nn lo hi) : lo ≤ hi := h.2.1
set_option maxRecDepth 100000 in
set_option maxHeartbeats 12800000 in
theorem symMerge_step (g B c N a m b f d : Nat) (cb : Array Value) (ex : List Value) (A L M C : List Int) (cf : Int → Int → Int) (R : Int → Int → Prop) (E : Int → Prop) (w0 w : World) (tr : Hid (∀ a b c, R a b → R b c → R a c)) (hc : CmpOk f cb g B w0 E cf) (hN2 : N ≤ 1048576)
    (ih : ∀ (a m b : Nat) (A L M C : List Int) (w : World), L.length + M.length ≤ d → Bes g B w0 w → (∀ y ∈ L ++ M, E y) → Hid (A.length = a) → Hid (a + L.length = m) → Hid (m + M.length = b) → b ≤ N → 0 < L.length → 0 < M.length → L.Pairwise R → M.Pairwise R → Cross (ltC cf) R L M → Dat w g ex (A ++ (L ++ (M ++ C))) →
      Calls Try.prog 138 #[.slice (some ⟨g, 0, none⟩) N c, .int .i64 a, .int .i64 m, .int .i64 b, .func (.func f) #[] cb] w (RetM g B ex w A C R (L ++ M)))
    (hd : L.length + M.length ≤ d + 1) (hw : Bes g B w0 w) (hE : ∀ y ∈ L ++ M, E y) (ha : Hid (A.length = a)) (hm : Hid (a + L.length = m)) (hb : Hid (m + M.length = b)) (hN : b ≤ N) (hl1 : 1 < L.length) (hm1 : 1 < M.length) (hL : Hid (L.Pairwise R)) (hM : Hid (M.Pairwise R)) (hX : Hid (Cross (ltC cf) R L M)) (hD : Dat w g ex (A ++ (L ++ (M ++ C)))) :
    Calls Try.prog 138 #[.slice (some ⟨g, 0, none⟩) N c, .int .i64 a, .int .i64 m, .int .i64 b, .func (.func f) #[] cb] w (RetM g B ex w A C R (L ++ M)) := by
  have HC := hid hc
  have eg := hc.enters
  have W0 := hid hw
  have HE := hid hE
  have IH := hid ih
  obtain ⟨X, hXE⟩ : ∃ X, X = A ++ (L ++ (M ++ C)) := ⟨_, rfl⟩
  have XE := hid hXE
  have XL : Hid (b ≤ X.length) := by show _ ≤ _; rw [hXE]; simp; have := ha.out; have := hm.out; have := hb.out; omega
  have D0 : Hid (Dat w g ex X) := by show Dat _ _ _ _; rw [hXE]; exact hD
  obtain ⟨nl, hnl⟩ : ∃ nl, nl = L.length := ⟨_, rfl⟩
  obtain ⟨nm, hnm⟩ : ∃ nm, nm = M.length := ⟨_, rfl⟩
  have hma : a + nl ≤ m ∧ m ≤ a + nl := by have := hm.out; omega
  have hmb : m + nm ≤ b ∧ b ≤ m + nm := by have := hb.out; omega
  have v0 : IntKind.i64.wrap ((m : Int) - (a : Int)) = (nl : Int) := by rw [IntKind.wrap_i64]; omega
  have v1 : IntKind.i64.wrap ((b : Int) - (m : Int)) = (nm : Int) := by rw [IntKind.wrap_i64]; omega
  have v2 : ((nl : Int) == 1) = false := beq_eq_false_iff_ne.2 (by omega)
  have v3 : ((nm : Int) == 1) = false := beq_eq_false_iff_ne.2 (by omega)
  obtain ⟨mid, hmid⟩ : ∃ mid, mid = (a + b) / 2 := ⟨_, rfl⟩
  obtain ⟨nn, hnn⟩ : ∃ nn, nn = mid + m := ⟨_, rfl⟩
  obtain ⟨pp, hpp⟩ : ∃ pp, pp = nn - 1 := ⟨_, rfl⟩
  have hmid1 : 2 * mid ≤ a + b ∧ a + b ≤ 2 * mid + 1 ∧ a + 1 ≤ mid ∧ mid + 1 ≤ b := by omega
  have hnn1 : nn ≤ mid + m ∧ mid + m ≤ nn := by omega
  have hpp1 : pp + 1 ≤ nn ∧ nn ≤ pp + 1 := by omega
  have v4 : ((a : Int) + (b : Int)) / 2 = (mid : Int) := by omega
  have v5 : IntKind.i64.wrap ((mid : Int) + (m : Int)) = (nn : Int) := by rw [IntKind.wrap_i64]; omega
  have v6 : IntKind.i64.wrap ((nn : Int) - 1) = (pp : Int) := by rw [IntKind.wrap_i64]; omega
  clear hc hw hE hD ih hXE hmid hnn hpp
  by_cases hgt : mid < m
  · obtain ⟨lo, hlo⟩ : ∃ lo, lo = nn - b := ⟨_, rfl⟩
    have SB : SymLo a m b mid nn lo mid := ⟨by omega, by omega, by omega, by omega, by omega, .inr (by omega), .inr rfl⟩
    have v7 : IntKind.i64.wrap ((nn : Int) - (b : Int)) = (lo : Int) := by rw [IntKind.wrap_i64]; omega
    have hgti : (mid : Int) < (m : Int) := by omega
    clear hlo hnl hnm
    go_enter Try.func138, Try.ntmps138
    go_wp2
    clear v0 v1 v2 v3 v6 v7
    clear v4 v5
    go_loopw [20, 21] (fun ti tj wr => ∃ lo hi s r : Nat, ti = .int .i64 s ∧ tj = .int .i64 r ∧ SymLo a m b mid nn lo hi ∧ lo ≤ s ∧ s ≤ r ∧ r ≤ hi ∧ Hid (s = lo ∨ ∀ u v, X[nn - s]? = some u → X[s - 1]? = some v → ltC cf u v = false) ∧ Hid (r = hi ∨ ∀ u v, X[nn - 1 - r]? = some u → X[r]? = some v → ltC cf u v = true) ∧ Hid (Dat wr g ex X) ∧ Hid (Bes g B w wr)) (fun ti tj _ => (intOf tj).toNat - (intOf ti).toNat)
    case atStart => exact ⟨_, _, _, _, rfl, rfl, SB, Nat.le_refl _, SB.le, Nat.le_refl _, .inl rfl, .inl rfl, D0, Bes.refl _ _ _⟩
    case round =>
      obtain ⟨lo, hi, s, r, rfl, rfl, hSB, h1, h2, h3, hI, hJ, hD, hW⟩ := hrel
      obtain ⟨q1, q2, q3, q4, q5, q6, q7⟩ := hSB
      by_cases hlt : s < r
      · have hi' : (s : Int) < (r : Int) := by omega
        obtain ⟨h, hh⟩ : ∃ h, h = (s + r) / 2 := ⟨_, rfl⟩
        have hh1 : s ≤ h ∧ h < r := by omega
        have hhd : ((s : Int) + (r : Int)) / 2 = (h : Int) := by omega
        obtain ⟨pc, hpc⟩ : ∃ pc, pc = nn - 1 - h := ⟨_, rfl⟩
        have hXl := XL.out
        obtain ⟨u, e1⟩ : ∃ u, X[pc]? = some u := ⟨_, List.getElem?_eq_getElem (by omega)⟩
        obtain ⟨u', e2⟩ : ∃ u, X[h]? = some u := ⟨_, List.getElem?_eq_getElem (by omega)⟩
        have hEu : E u := HE.out u (by rw [XE.out, seg2 (m := m) (by have := ha.out; have := hm.out; omega) (by omega) (by have := hb.out; omega)] at e1; exact List.mem_append_right _ (List.mem_of_getElem? e1))
        have hEl : E u' := HE.out u' (by rw [XE.out, seg1 ha.out (by omega) (by have := hm.out; omega)] at e2; exact List.mem_append_left _ (List.mem_of_getElem? e2))
        have c1 := (hD.out.at_ e1).1
        have c2 := (hD.out.at_ e2).1
        have b1 : (pc : Int) < (N : Int) := by omega
        have b2 : (h : Int) < (N : Int) := by omega
        obtain ⟨v, hv⟩ : ∃ v, v = cf u u' := ⟨_, rfl⟩
        have k1 : ∀ p', (behind wr p').cell? ⟨g, pc, none⟩ = some (.int .i64 u) := cell_behind c1
        have k2 : ∀ p', (behind wr p').cell? ⟨g, h, none⟩ = some (.int .i64 u') := cell_behind c2
        have CB : Hid (∀ p', Calls Try.prog f (#[.int .i64 u, .int .i64 u'] ++ cb) (behind wr p') fun e w'' => e = .returned (.int .i64 v) ∧ ∃ q : BehindBy, w'' = behind wr q) := fun p' => by
          rw [hv]
          exact calls_behind (HC.out.call _ (W0.out.trans (hW.out.call (behind_below wr p') (Nat.le_trans HC.out.room W0.out.size))) u u' hEu hEl)
        have hltv : ltC cf u u' = decide (v < 0) := by rw [hv]; rfl
        have LV := hid hltv
        have E1 := hid e1
        have E2 := hid e2
        have hpc1 : pc + h + 1 ≤ nn ∧ nn ≤ pc + h + 1 := by omega
        have v8 : IntKind.i64.wrap ((pp : Int) - (h : Int)) = (pc : Int) := by rw [IntKind.wrap_i64]; omega
        clear hh e1 e2 c1 c2 hEu hEl hv hltv hpc hXl
        by_cases hvz : v < 0
        · have hvd : decide (v < 0) = true := decide_eq_true hvz
          have hJ2 : Hid (h = hi ∨ ∀ u v, X[nn - 1 - h]? = some u → X[h]? = some v → ltC cf u v = true) := .inr fun x y hx hy => by
            rw [show nn - 1 - h = pc by omega, E1.out] at hx
            rw [E2.out] at hy
            injection hx with hx
            injection hy with hy
            rw [← hx, ← hy, LV.out]; exact hvd
          go_wp2
          refine wp_region_quiet_below (by kernel_rfl) (by kernel_rfl) ?_
          repeat (quiet_step ((go_at_fn f; exact CB.out _)))
          refine wpQuiet_nil ?_
          intro w3 hw3
          have hbb := behind_all hw3
          have O3 := hid (hD.out.below hbb)
          have W3 := hid (hW.out.call hbb (Nat.le_trans HC.out.room W0.out.size))
          clear hbb hw3 k1 k2 hD v8
          go_wp2
          exact ⟨⟨lo, hi, s, h, rfl, rfl, ⟨q1, q2, q3, q4, q5, q6, q7⟩, h1, by omega, by omega, hI, hJ2, O3, W3⟩, by simp [intOf]; omega⟩
        · have hvd : decide (v < 0) = false := decide_eq_false hvz
          have hI2 : Hid (h + 1 = lo ∨ ∀ u v, X[nn - (h + 1)]? = some u → X[h + 1 - 1]? = some v → ltC cf u v = false) := .inr fun x y hx hy => by
            rw [show nn - (h + 1) = pc by omega, E1.out] at hx
            rw [Nat.add_sub_cancel, E2.out] at hy
            injection hx with hx
            injection hy with hy
            rw [← hx, ← hy, LV.out]; exact hvd
          go_wp2
          refine wp_region_quiet_below (by kernel_rfl) (by kernel_rfl) ?_
          repeat (quiet_step ((go_at_fn f; exact CB.out _)))
          refine wpQuiet_nil ?_
          intro w3 hw3
          have hbb := behind_all hw3
          have O3 := hid (hD.out.below hbb)
          have W3 := hid (hW.out.call hbb (Nat.le_trans HC.out.room W0.out.size))
          clear hbb hw3 k1 k2 hD v8
          go_wp2
          exact ⟨⟨lo, hi, h + 1, r, by go_num, rfl, ⟨q1, q2, q3, q4, q5, q6, q7⟩, by omega, by omega, h3, hI2, hJ, O3, W3⟩, by simp [intOf]; omega⟩
      · have hi' : ¬ (s : Int) < (r : Int) := by omega
        obtain rfl : s = r := by omega
        obtain ⟨en, hen⟩ : ∃ en, en = nn - s := ⟨_, rfl⟩
        have hen1 : en + s ≤ nn ∧ nn ≤ en + s := by omega
        have hsp := sym_split (lt := ltC cf) (R := R) (A := A) (L := L) (M := M) (C := C) (a := a) (m := m) (b := b) (mid := mid) (s := s) tr.out ha.out hm.out hb.out hL.out hM.out hX.out (by omega) (by omega) (by omega) (by omega)
          (by rw [← XE.out, show mid + m = nn by omega]; rcases hI.out with h | h
              · rcases q6 with h' | h'
                · exact .inl (by omega)
                · exact .inr (.inl (by omega))
              · exact .inr (.inr h))
          (by rw [← XE.out, show mid + m = nn by omega]; rcases hJ.out with h | h
              · rcases q7 with h' | h'
                · exact .inl (by omega)
                · exact .inr (.inl (by omega))
              · exact .inr (.inr h))
        obtain ⟨L1, hL1⟩ : ∃ x, x = L.take (s - a) := ⟨_, rfl⟩
        obtain ⟨L2, hL2⟩ : ∃ x, x = L.drop (s - a) := ⟨_, rfl⟩
        obtain ⟨M1, hM1⟩ : ∃ x, x = M.take (mid - s) := ⟨_, rfl⟩
        obtain ⟨M2, hM2⟩ : ∃ x, x = M.drop (mid - s) := ⟨_, rfl⟩
        rw [← hL1, ← hL2, ← hM1, ← hM2] at hsp
        have eL : L = L1 ++ L2 := by rw [hL1, hL2, List.take_append_drop]
        have eM : M = M1 ++ M2 := by rw [hM1, hM2, List.take_append_drop]
        have hma := hm.out
        have hmb := hb.out
        have l1 : L1.length = s - a := by rw [hL1, List.length_take]; omega
        have l2 : L2.length = m - s := by rw [hL2, List.length_drop]; omega
        have m1 : M1.length = mid - s := by rw [hM1, List.length_take]; omega
        have m2 : M2.length = b - en := by rw [hM2, List.length_drop]; omega
        have LL1 := hid l1
        have LM1 := hid m1
        have hDX : Dat wr g ex (A ++ (L1 ++ (L2 ++ (M1 ++ (M2 ++ C))))) := by have h := hD.out; rw [XE.out, eL, eM] at h; simpa only [List.append_assoc] using h
        have hLp : L1.Pairwise R ∧ L2.Pairwise R := by have h := hL.out; rw [eL, List.pairwise_append] at h; exact ⟨h.1, h.2.1⟩
        have hMp : M1.Pairwise R ∧ M2.Pairwise R := by have h := hM.out; rw [eM, List.pairwise_append] at h; exact ⟨h.1, h.2.1⟩
        have HE' := HE.out
        have C1_ : s < m ∧ m < en → Calls Try.prog 166 #[.slice (some ⟨g, 0, none⟩) N c, .int .i64 s, .int .i64 m, .int .i64 en, .func (.func f) #[] cb] wr (RetD g B ex wr ((A ++ L1) ++ (M1 ++ (L2 ++ (M2 ++ C))))) := fun ⟨h4, h5⟩ =>
          rotate_any g B c N s m en ex (A ++ L1) L2 M1 (M2 ++ C) _ wr (by show _ = _; rw [List.length_append]; have := ha.out; omega) (by show _ = _; omega) (by show _ = _; omega) (by omega) hN2 (by omega) (by omega) (by rw [List.append_assoc]; exact hDX)
        have N1 : Hid (¬ (s < m ∧ m < en) → Hid (Dat wr g ex (A ++ (L1 ++ (M1 ++ (L2 ++ (M2 ++ C))))))) := fun h4 => by
          show Dat _ _ _ _
          have h5 : L2 = [] ∨ M1 = [] := by
            rcases Nat.lt_or_ge s m with h6 | h6
            · exact .inr (List.length_eq_zero_iff.1 (by omega))
            · exact .inl (List.length_eq_zero_iff.1 (by omega))
          rcases h5 with h5 | h5 <;> (subst h5; simpa using hDX)
        have N2 : Hid (¬ (a < s ∧ s < mid) → Mg R (L1 ++ M1) (L1 ++ M1)) := fun h4 => mg_either hLp.1 hMp.1 (by
            rcases Nat.lt_or_ge a s with h6 | h6
            · exact .inr (List.length_eq_zero_iff.1 (by omega))
            · exact .inl (List.length_eq_zero_iff.1 (by omega)))
        have N3 : Hid (¬ (mid < en ∧ en < b) → Mg R (L2 ++ M2) (L2 ++ M2)) := fun h4 => mg_either hLp.2 hMp.2 (by
            rcases Nat.lt_or_ge mid en with h6 | h6
            · exact .inr (List.length_eq_zero_iff.1 (by omega))
            · exact .inl (List.length_eq_zero_iff.1 (by omega)))
        have I1 : Hid (a < s ∧ s < mid → ∀ w', Hid (Dat w' g ex (A ++ (L1 ++ (M1 ++ (L2 ++ (M2 ++ C)))))) → Hid (Bes g B w w') → Calls Try.prog 138 #[.slice (some ⟨g, 0, none⟩) N c, .int .i64 a, .int .i64 s, .int .i64 mid, .func (.func f) #[] cb] w' (RetM g B ex w' A (L2 ++ (M2 ++ C)) R (L1 ++ M1))) := fun h4 w' hd hw' =>
          IH.out a s mid A L1 M1 (L2 ++ (M2 ++ C)) w' (by omega) (W0.out.trans hw'.out) (fun y hy => HE' y (by rw [eL, eM]; simp only [List.mem_append] at hy ⊢; rcases hy with h | h <;> simp [h])) ha (by show _ = _; omega) (by show _ = _; omega) (by omega) (by omega) (by omega) hLp.1 hMp.1 (hX.out.sub (fun y hy => by rw [eL]; simp [hy]) (fun y hy => by rw [eM]; simp [hy])) hd.out
        have I2 : Hid (mid < en ∧ en < b → ∀ P : List Int, Hid (P.length = mid) → ∀ w', Hid (Dat w' g ex (P ++ (L2 ++ (M2 ++ C)))) → Hid (Bes g B w w') → Calls Try.prog 138 #[.slice (some ⟨g, 0, none⟩) N c, .int .i64 mid, .int .i64 en, .int .i64 b, .func (.func f) #[] cb] w' (RetM g B ex w' P C R (L2 ++ M2))) := fun h4 P hP w' hd hw' =>
          IH.out mid en b P L2 M2 C w' (by omega) (W0.out.trans hw'.out) (fun y hy => HE' y (by rw [eL, eM]; simp only [List.mem_append] at hy ⊢; rcases hy with h | h <;> simp [h])) hP (by show _ = _; omega) (by show _ = _; omega) (by omega) (by omega) (by omega) hLp.2 hMp.2 (hX.out.sub (fun y hy => by rw [eL]; simp [hy]) (fun y hy => by rw [eM]; simp [hy])) hd.out
        have FIN : Hid (∀ X1 X2, Mg R (L1 ++ M1) X1 → Mg R (L2 ++ M2) X2 → Mg R (L ++ M) (X1 ++ X2)) := fun X1 X2 h4 h5 => by
          rw [eL, eM]; exact mg_join h4 h5 hsp
        have v9 : IntKind.i64.wrap ((nn : Int) - (s : Int)) = (en : Int) := by rw [IntKind.wrap_i64]; omega
        clear IH hI hJ hD hDX hsp hL1 hL2 hM1 hM2 eL eM hma hmb l1 l2 m1 m2 hLp hMp HE' hen q6 q7
        by_cases g1 : s < m ∧ m < en
        · by_cases g2 : a < s ∧ s < mid
          · by_cases g3 : mid < en ∧ en < b
            · obtain ⟨g1a, g1b⟩ := g1
              have g1c : (s : Int) < (m : Int) := by omega
              have g1d : (m : Int) < (en : Int) := by omega
              obtain ⟨g2a, g2b⟩ := g2
              have g2c : (a : Int) < (s : Int) := by omega
              have g2d : (s : Int) < (mid : Int) := by omega
              obtain ⟨g3a, g3b⟩ := g3
              have g3c : (mid : Int) < (en : Int) := by omega
              have g3d : (en : Int) < (b : Int) := by omega
              first
              | (exfalso; omega)
              | (have C1 := hid (C1_ ⟨g1a, g1b⟩)
                 go_wp2_with fail
                 refine C1.out.mono ?_
                 rintro e w1 ⟨rfl, hD1, hW1⟩
                 have D1 : Hid (Dat w1 g ex (A ++ (L1 ++ (M1 ++ (L2 ++ (M2 ++ C)))))) := by show Dat _ _ _ _; rw [← List.append_assoc A]; exact hD1
                 have W1 := hid (hW.out.trans hW1)
                 clear hD1 hW1 C1
                 have C2 := hid (I1.out ⟨g2a, g2b⟩ w1 D1 W1)
                 go_wp2_with fail
                 refine C2.out.mono ?_
                 rintro e w2 ⟨X1, rfl, hm1, hD2, hW2⟩
                 have D2 : Hid (Dat w2 g ex ((A ++ X1) ++ (L2 ++ (M2 ++ C)))) := by show Dat _ _ _ _; rw [List.append_assoc]; exact hD2
                 have Mg1 := hid hm1
                 have W2 := hid (W1.out.trans hW2)
                 clear hD2 hW2 hm1 C2
                 have hP : Hid ((A ++ X1).length = mid) := by show _ = _; rw [List.length_append, Mg1.out.1.length_eq, List.length_append]; have := ha.out; have := LL1.out; have := LM1.out; omega
                 have C3 := hid (I2.out ⟨g3a, g3b⟩ (A ++ X1) hP w2 D2 W2)
                 go_wp2_with fail
                 refine C3.out.mono ?_
                 rintro e w3 ⟨X2, rfl, hm2, hD3, hW3⟩
                 have D3 := hid hD3
                 have Mg2 := hid hm2
                 have W3 := hid (W2.out.trans hW3)
                 clear hD3 hW3 hm2 C3
                 have hfin := hid (FIN.out X1 X2 Mg1.out Mg2.out)
                 have hdat : Hid (Dat w3 g ex (A ++ ((X1 ++ X2) ++ C))) := by show Dat _ _ _ _; have h := D3.out; simpa only [List.append_assoc] using h
                 go_wp2
                 go_end0
                 exact ⟨X1 ++ X2, rfl, hfin.out, hdat.out, W3.out⟩)
            · obtain ⟨g1a, g1b⟩ := g1
              have g1c : (s : Int) < (m : Int) := by omega
              have g1d : (m : Int) < (en : Int) := by omega
              obtain ⟨g2a, g2b⟩ := g2
              have g2c : (a : Int) < (s : Int) := by omega
              have g2d : (s : Int) < (mid : Int) := by omega
              by_cases g3h : mid < en
              · have g3c : (mid : Int) < (en : Int) := by omega
                have g3d : ¬ (en : Int) < (b : Int) := by omega
                first
                | (exfalso; omega)
                | (have C1 := hid (C1_ ⟨g1a, g1b⟩)
                   go_wp2_with fail
                   refine C1.out.mono ?_
                   rintro e w1 ⟨rfl, hD1, hW1⟩
                   have D1 : Hid (Dat w1 g ex (A ++ (L1 ++ (M1 ++ (L2 ++ (M2 ++ C)))))) := by show Dat _ _ _ _; rw [← List.append_assoc A]; exact hD1
                   have W1 := hid (hW.out.trans hW1)
                   clear hD1 hW1 C1
                   have C2 := hid (I1.out ⟨g2a, g2b⟩ w1 D1 W1)
                   go_wp2_with fail
                   refine C2.out.mono ?_
                   rintro e w2 ⟨X1, rfl, hm1, hD2, hW2⟩
                   have D2 : Hid (Dat w2 g ex ((A ++ X1) ++ (L2 ++ (M2 ++ C)))) := by show Dat _ _ _ _; rw [List.append_assoc]; exact hD2
                   have Mg1 := hid hm1
                   have W2 := hid (W1.out.trans hW2)
                   clear hD2 hW2 hm1 C2
                   have hP : Hid ((A ++ X1).length = mid) := by show _ = _; rw [List.length_append, Mg1.out.1.length_eq, List.length_append]; have := ha.out; have := LL1.out; have := LM1.out; omega
                   obtain ⟨X2, hX2⟩ : ∃ X2, X2 = L2 ++ M2 := ⟨_, rfl⟩
                   have Mg2 : Hid (Mg R (L2 ++ M2) X2) := by rw [hX2]; exact N3.out g3
                   have D3 : Hid (Dat w2 g ex ((A ++ X1) ++ (X2 ++ C))) := by show Dat _ _ _ _; rw [hX2]; have h := D2.out; simpa only [List.append_assoc] using h
                   have W3 := W2
                   clear hX2
                   have hfin := hid (FIN.out X1 X2 Mg1.out Mg2.out)
                   have hdat : Hid (Dat w2 g ex (A ++ ((X1 ++ X2) ++ C))) := by show Dat _ _ _ _; have h := D3.out; simpa only [List.append_assoc] using h
                   go_wp2
                   go_end0
                   exact ⟨X1 ++ X2, rfl, hfin.out, hdat.out, W3.out⟩)
              · have g3c : ¬ (mid : Int) < (en : Int) := by omega
                first
                | (exfalso; omega)
                | (have C1 := hid (C1_ ⟨g1a, g1b⟩)
                   go_wp2_with fail
                   refine C1.out.mono ?_
                   rintro e w1 ⟨rfl, hD1, hW1⟩
                   have D1 : Hid (Dat w1 g ex (A ++ (L1 ++ (M1 ++ (L2 ++ (M2 ++ C)))))) := by show Dat _ _ _ _; rw [← List.append_assoc A]; exact hD1
                   have W1 := hid (hW.out.trans hW1)
                   clear hD1 hW1 C1
                   have C2 := hid (I1.out ⟨g2a, g2b⟩ w1 D1 W1)
                   go_wp2_with fail
                   refine C2.out.mono ?_
                   rintro e w2 ⟨X1, rfl, hm1, hD2, hW2⟩
                   have D2 : Hid (Dat w2 g ex ((A ++ X1) ++ (L2 ++ (M2 ++ C)))) := by show Dat _ _ _ _; rw [List.append_assoc]; exact hD2
                   have Mg1 := hid hm1
                   have W2 := hid (W1.out.trans hW2)
                   clear hD2 hW2 hm1 C2
                   have hP : Hid ((A ++ X1).length = mid) := by show _ = _; rw [List.length_append, Mg1.out.1.length_eq, List.length_append]; have := ha.out; have := LL1.out; have := LM1.out; omega
                   obtain ⟨X2, hX2⟩ : ∃ X2, X2 = L2 ++ M2 := ⟨_, rfl⟩
                   have Mg2 : Hid (Mg R (L2 ++ M2) X2) := by rw [hX2]; exact N3.out g3
                   have D3 : Hid (Dat w2 g ex ((A ++ X1) ++ (X2 ++ C))) := by show Dat _ _ _ _; rw [hX2]; have h := D2.out; simpa only [List.append_assoc] using h
                   have W3 := W2
                   clear hX2
                   have hfin := hid (FIN.out X1 X2 Mg1.out Mg2.out)
                   have hdat : Hid (Dat w2 g ex (A ++ ((X1 ++ X2) ++ C))) := by show Dat _ _ _ _; have h := D3.out; simpa only [List.append_assoc] using h
                   go_wp2
                   go_end0
                   exact ⟨X1 ++ X2, rfl, hfin.out, hdat.out, W3.out⟩)
          · by_cases g3 : mid < en ∧ en < b
            · obtain ⟨g1a, g1b⟩ := g1
              have g1c : (s : Int) < (m : Int) := by omega
              have g1d : (m : Int) < (en : Int) := by omega
              obtain ⟨g3a, g3b⟩ := g3
              have g3c : (mid : Int) < (en : Int) := by omega
              have g3d : (en : Int) < (b : Int) := by omega
              by_cases g2h : a < s
              · have g2c : (a : Int) < (s : Int) := by omega
                have g2d : ¬ (s : Int) < (mid : Int) := by omega
                first
                | (exfalso; omega)
                | (have C1 := hid (C1_ ⟨g1a, g1b⟩)
                   go_wp2_with fail
                   refine C1.out.mono ?_
                   rintro e w1 ⟨rfl, hD1, hW1⟩
                   have D1 : Hid (Dat w1 g ex (A ++ (L1 ++ (M1 ++ (L2 ++ (M2 ++ C)))))) := by show Dat _ _ _ _; rw [← List.append_assoc A]; exact hD1
                   have W1 := hid (hW.out.trans hW1)
                   clear hD1 hW1 C1
                   obtain ⟨X1, hX1⟩ : ∃ X1, X1 = L1 ++ M1 := ⟨_, rfl⟩
                   have Mg1 : Hid (Mg R (L1 ++ M1) X1) := by rw [hX1]; exact N2.out g2
                   have D2 : Hid (Dat w1 g ex ((A ++ X1) ++ (L2 ++ (M2 ++ C)))) := by show Dat _ _ _ _; rw [hX1]; have h := D1.out; simpa only [List.append_assoc] using h
                   have W2 := W1
                   clear hX1
                   have hP : Hid ((A ++ X1).length = mid) := by show _ = _; rw [List.length_append, Mg1.out.1.length_eq, List.length_append]; have := ha.out; have := LL1.out; have := LM1.out; omega
                   have C3 := hid (I2.out ⟨g3a, g3b⟩ (A ++ X1) hP w1 D2 W2)
                   go_wp2_with fail
                   refine C3.out.mono ?_
                   rintro e w3 ⟨X2, rfl, hm2, hD3, hW3⟩
                   have D3 := hid hD3
                   have Mg2 := hid hm2
                   have W3 := hid (W2.out.trans hW3)
                   clear hD3 hW3 hm2 C3
                   have hfin := hid (FIN.out X1 X2 Mg1.out Mg2.out)
                   have hdat : Hid (Dat w3 g ex (A ++ ((X1 ++ X2) ++ C))) := by show Dat _ _ _ _; have h := D3.out; simpa only [List.append_assoc] using h
                   go_wp2
                   go_end0
                   exact ⟨X1 ++ X2, rfl, hfin.out, hdat.out, W3.out⟩)
              · have g2c : ¬ (a : Int) < (s : Int) := by omega
                first
                | (exfalso; omega)
                | (have C1 := hid (C1_ ⟨g1a, g1b⟩)
                   go_wp2_with fail
                   refine C1.out.mono ?_
                   rintro e w1 ⟨rfl, hD1, hW1⟩
                   have D1 : Hid (Dat w1 g ex (A ++ (L1 ++ (M1 ++ (L2 ++ (M2 ++ C)))))) := by show Dat _ _ _ _; rw [← List.append_assoc A]; exact hD1
                   have W1 := hid (hW.out.trans hW1)
                   clear hD1 hW1 C1
                   obtain ⟨X1, hX1⟩ : ∃ X1, X1 = L1 ++ M1 := ⟨_, rfl⟩
                   have Mg1 : Hid (Mg R (L1 ++ M1) X1) := by rw [hX1]; exact N2.out g2
                   have D2 : Hid (Dat w1 g ex ((A ++ X1) ++ (L2 ++ (M2 ++ C)))) := by show Dat _ _ _ _; rw [hX1]; have h := D1.out; simpa only [List.append_assoc] using h
                   have W2 := W1
                   clear hX1
                   have hP : Hid ((A ++ X1).length = mid) := by show _ = _; rw [List.length_append, Mg1.out.1.length_eq, List.length_append]; have := ha.out; have := LL1.out; have := LM1.out; omega
                   have C3 := hid (I2.out ⟨g3a, g3b⟩ (A ++ X1) hP w1 D2 W2)
                   go_wp2_with fail
                   refine C3.out.mono ?_
                   rintro e w3 ⟨X2, rfl, hm2, hD3, hW3⟩
                   have D3 := hid hD3
                   have Mg2 := hid hm2
                   have W3 := hid (W2.out.trans hW3)
                   clear hD3 hW3 hm2 C3
                   have hfin := hid (FIN.out X1 X2 Mg1.out Mg2.out)
                   have hdat : Hid (Dat w3 g ex (A ++ ((X1 ++ X2) ++ C))) := by show Dat _ _ _ _; have h := D3.out; simpa only [List.append_assoc] using h
                   go_wp2
                   go_end0
                   exact ⟨X1 ++ X2, rfl, hfin.out, hdat.out, W3.out⟩)
            · obtain ⟨g1a, g1b⟩ := g1
              have g1c : (s : Int) < (m : Int) := by omega
              have g1d : (m : Int) < (en : Int) := by omega
              by_cases g2h : a < s
              · have g2c : (a : Int) < (s : Int) := by omega
                have g2d : ¬ (s : Int) < (mid : Int) := by omega
                by_cases g3h : mid < en
                · have g3c : (mid : Int) < (en : Int) := by omega
                  have g3d : ¬ (en : Int) < (b : Int) := by omega
                  first
                  | (exfalso; omega)
                  | (have C1 := hid (C1_ ⟨g1a, g1b⟩)
                     go_wp2_with fail
                     refine C1.out.mono ?_
                     rintro e w1 ⟨rfl, hD1, hW1⟩
                     have D1 : Hid (Dat w1 g ex (A ++ (L1 ++ (M1 ++ (L2 ++ (M2 ++ C)))))) := by show Dat _ _ _ _; rw [← List.append_assoc A]; exact hD1
                     have W1 := hid (hW.out.trans hW1)
                     clear hD1 hW1 C1
                     obtain ⟨X1, hX1⟩ : ∃ X1, X1 = L1 ++ M1 := ⟨_, rfl⟩
                     have Mg1 : Hid (Mg R (L1 ++ M1) X1) := by rw [hX1]; exact N2.out g2
                     have D2 : Hid (Dat w1 g ex ((A ++ X1) ++ (L2 ++ (M2 ++ C)))) := by show Dat _ _ _ _; rw [hX1]; have h := D1.out; simpa only [List.append_assoc] using h
                     have W2 := W1
                     clear hX1
                     have hP : Hid ((A ++ X1).length = mid) := by show _ = _; rw [List.length_append, Mg1.out.1.length_eq, List.length_append]; have := ha.out; have := LL1.out; have := LM1.out; omega
                     obtain ⟨X2, hX2⟩ : ∃ X2, X2 = L2 ++ M2 := ⟨_, rfl⟩
                     have Mg2 : Hid (Mg R (L2 ++ M2) X2) := by rw [hX2]; exact N3.out g3
                     have D3 : Hid (Dat w1 g ex ((A ++ X1) ++ (X2 ++ C))) := by show Dat _ _ _ _; rw [hX2]; have h := D2.out; simpa only [List.append_assoc] using h
                     have W3 := W2
                     clear hX2
                     have hfin := hid (FIN.out X1 X2 Mg1.out Mg2.out)
                     have hdat : Hid (Dat w1 g ex (A ++ ((X1 ++ X2) ++ C))) := by show Dat _ _ _ _; have h := D3.out; simpa only [List.append_assoc] using h
                     go_wp2
                     go_end0
                     exact ⟨X1 ++ X2, rfl, hfin.out, hdat.out, W3.out⟩)
                · have g3c : ¬ (mid : Int) < (en : Int) := by omega
                  first
                  | (exfalso; omega)
                  | (have C1 := hid (C1_ ⟨g1a, g1b⟩)
                     go_wp2_with fail
                     refine C1.out.mono ?_
                     rintro e w1 ⟨rfl, hD1, hW1⟩
                     have D1 : Hid (Dat w1 g ex (A ++ (L1 ++ (M1 ++ (L2 ++ (M2 ++ C)))))) := by show Dat _ _ _ _; rw [← List.append_assoc A]; exact hD1
                     have W1 := hid (hW.out.trans hW1)
                     clear hD1 hW1 C1
                     obtain ⟨X1, hX1⟩ : ∃ X1, X1 = L1 ++ M1 := ⟨_, rfl⟩
                     have Mg1 : Hid (Mg R (L1 ++ M1) X1) := by rw [hX1]; exact N2.out g2
                     have D2 : Hid (Dat w1 g ex ((A ++ X1) ++ (L2 ++ (M2 ++ C)))) := by show Dat _ _ _ _; rw [hX1]; have h := D1.out; simpa only [List.append_assoc] using h
                     have W2 := W1
                     clear hX1
                     have hP : Hid ((A ++ X1).length = mid) := by show _ = _; rw [List.length_append, Mg1.out.1.length_eq, List.length_append]; have := ha.out; have := LL1.out; have := LM1.out; omega
                     obtain ⟨X2, hX2⟩ : ∃ X2, X2 = L2 ++ M2 := ⟨_, rfl⟩
                     have Mg2 : Hid (Mg R (L2 ++ M2) X2) := by rw [hX2]; exact N3.out g3
                     have D3 : Hid (Dat w1 g ex ((A ++ X1) ++ (X2 ++ C))) := by show Dat _ _ _ _; rw [hX2]; have h := D2.out; simpa only [List.append_assoc] using h
                     have W3 := W2
                     clear hX2
                     have hfin := hid (FIN.out X1 X2 Mg1.out Mg2.out)
                     have hdat : Hid (Dat w1 g ex (A ++ ((X1 ++ X2) ++ C))) := by show Dat _ _ _ _; have h := D3.out; simpa only [List.append_assoc] using h
                     go_wp2
                     go_end0
                     exact ⟨X1 ++ X2, rfl, hfin.out, hdat.out, W3.out⟩)
              · have g2c : ¬ (a : Int) < (s : Int) := by omega
                by_cases g3h : mid < en
                · have g3c : (mid : Int) < (en : Int) := by omega
                  have g3d : ¬ (en : Int) < (b : Int) := by omega
                  first
                  | (exfalso; omega)
                  | (have C1 := hid (C1_ ⟨g1a, g1b⟩)
                     go_wp2_with fail
                     refine C1.out.mono ?_
                     rintro e w1 ⟨rfl, hD1, hW1⟩
                     have D1 : Hid (Dat w1 g ex (A ++ (L1 ++ (M1 ++ (L2 ++ (M2 ++ C)))))) := by show Dat _ _ _ _; rw [← List.append_assoc A]; exact hD1
                     have W1 := hid (hW.out.trans hW1)
                     clear hD1 hW1 C1
                     obtain ⟨X1, hX1⟩ : ∃ X1, X1 = L1 ++ M1 := ⟨_, rfl⟩
                     have Mg1 : Hid (Mg R (L1 ++ M1) X1) := by rw [hX1]; exact N2.out g2
                     have D2 : Hid (Dat w1 g ex ((A ++ X1) ++ (L2 ++ (M2 ++ C)))) := by show Dat _ _ _ _; rw [hX1]; have h := D1.out; simpa only [List.append_assoc] using h
                     have W2 := W1
                     clear hX1
                     have hP : Hid ((A ++ X1).length = mid) := by show _ = _; rw [List.length_append, Mg1.out.1.length_eq, List.length_append]; have := ha.out; have := LL1.out; have := LM1.out; omega
                     obtain ⟨X2, hX2⟩ : ∃ X2, X2 = L2 ++ M2 := ⟨_, rfl⟩
                     have Mg2 : Hid (Mg R (L2 ++ M2) X2) := by rw [hX2]; exact N3.out g3
                     have D3 : Hid (Dat w1 g ex ((A ++ X1) ++ (X2 ++ C))) := by show Dat _ _ _ _; rw [hX2]; have h := D2.out; simpa only [List.append_assoc] using h
                     have W3 := W2
                     clear hX2
                     have hfin := hid (FIN.out X1 X2 Mg1.out Mg2.out)
                     have hdat : Hid (Dat w1 g ex (A ++ ((X1 ++ X2) ++ C))) := by show Dat _ _ _ _; have h := D3.out; simpa only [List.append_assoc] using h
                     go_wp2
                     go_end0
                     exact ⟨X1 ++ X2, rfl, hfin.out, hdat.out, W3.out⟩)
                · have g3c : ¬ (mid : Int) < (en : Int) := by omega
                  first
                  | (exfalso; omega)
                  | (have C1 := hid (C1_ ⟨g1a, g1b⟩)
                     go_wp2_with fail
                     refine C1.out.mono ?_
                     rintro e w1 ⟨rfl, hD1, hW1⟩
                     have D1 : Hid (Dat w1 g ex (A ++ (L1 ++ (M1 ++ (L2 ++ (M2 ++ C)))))) := by show Dat _ _ _ _; rw [← List.append_assoc A]; exact hD1
                     have W1 := hid (hW.out.trans hW1)
                     clear hD1 hW1 C1
                     obtain ⟨X1, hX1⟩ : ∃ X1, X1 = L1 ++ M1 := ⟨_, rfl⟩
                     have Mg1 : Hid (Mg R (L1 ++ M1) X1) := by rw [hX1]; exact N2.out g2
                     have D2 : Hid (Dat w1 g ex ((A ++ X1) ++ (L2 ++ (M2 ++ C)))) := by show Dat _ _ _ _; rw [hX1]; have h := D1.out; simpa only [List.append_assoc] using h
                     have W2 := W1
                     clear hX1
                     have hP : Hid ((A ++ X1).length = mid) := by show _ = _; rw [List.length_append, Mg1.out.1.length_eq, List.length_append]; have := ha.out; have := LL1.out; have := LM1.out; omega
                     obtain ⟨X2, hX2⟩ : ∃ X2, X2 = L2 ++ M2 := ⟨_, rfl⟩
                     have Mg2 : Hid (Mg R (L2 ++ M2) X2) := by rw [hX2]; exact N3.out g3
                     have D3 : Hid (Dat w1 g ex ((A ++ X1) ++ (X2 ++ C))) := by show Dat _ _ _ _; rw [hX2]; have h := D2.out; simpa only [List.append_assoc] using h
                     have W3 := W2
                     clear hX2
                     have hfin := hid (FIN.out X1 X2 Mg1.out Mg2.out)
                     have hdat : Hid (Dat w1 g ex (A ++ ((X1 ++ X2) ++ C))) := by show Dat _ _ _ _; have h := D3.out; simpa only [List.append_assoc] using h
                     go_wp2
                     go_end0
                     exact ⟨X1 ++ X2, rfl, hfin.out, hdat.out, W3.out⟩)
        · by_cases g2 : a < s ∧ s < mid
          · by_cases g3 : mid < en ∧ en < b
            · obtain ⟨g2a, g2b⟩ := g2
              have g2c : (a : Int) < (s : Int) := by omega
              have g2d : (s : Int) < (mid : Int) := by omega
              obtain ⟨g3a, g3b⟩ := g3
              have g3c : (mid : Int) < (en : Int) := by omega
              have g3d : (en : Int) < (b : Int) := by omega
              by_cases g1h : s < m
              · have g1c : (s : Int) < (m : Int) := by omega
                have g1d : ¬ (m : Int) < (en : Int) := by omega
                first
                | (exfalso; omega)
                | (have D1 : Hid (Dat wr g ex (A ++ (L1 ++ (M1 ++ (L2 ++ (M2 ++ C)))))) := N1.out g1
                   have W1 := hW
                   have C2 := hid (I1.out ⟨g2a, g2b⟩ wr D1 W1)
                   go_wp2_with fail
                   refine C2.out.mono ?_
                   rintro e w2 ⟨X1, rfl, hm1, hD2, hW2⟩
                   have D2 : Hid (Dat w2 g ex ((A ++ X1) ++ (L2 ++ (M2 ++ C)))) := by show Dat _ _ _ _; rw [List.append_assoc]; exact hD2
                   have Mg1 := hid hm1
                   have W2 := hid (W1.out.trans hW2)
                   clear hD2 hW2 hm1 C2
                   have hP : Hid ((A ++ X1).length = mid) := by show _ = _; rw [List.length_append, Mg1.out.1.length_eq, List.length_append]; have := ha.out; have := LL1.out; have := LM1.out; omega
                   have C3 := hid (I2.out ⟨g3a, g3b⟩ (A ++ X1) hP w2 D2 W2)
                   go_wp2_with fail
                   refine C3.out.mono ?_
                   rintro e w3 ⟨X2, rfl, hm2, hD3, hW3⟩
                   have D3 := hid hD3
                   have Mg2 := hid hm2
                   have W3 := hid (W2.out.trans hW3)
                   clear hD3 hW3 hm2 C3
                   have hfin := hid (FIN.out X1 X2 Mg1.out Mg2.out)
                   have hdat : Hid (Dat w3 g ex (A ++ ((X1 ++ X2) ++ C))) := by show Dat _ _ _ _; have h := D3.out; simpa only [List.append_assoc] using h
                   go_wp2
                   go_end0
                   exact ⟨X1 ++ X2, rfl, hfin.out, hdat.out, W3.out⟩)
              · have g1c : ¬ (s : Int) < (m : Int) := by omega
                first
                | (exfalso; omega)
                | (have D1 : Hid (Dat wr g ex (A ++ (L1 ++ (M1 ++ (L2 ++ (M2 ++ C)))))) := N1.out g1
                   have W1 := hW
                   have C2 := hid (I1.out ⟨g2a, g2b⟩ wr D1 W1)
                   go_wp2_with fail
                   refine C2.out.mono ?_
                   rintro e w2 ⟨X1, rfl, hm1, hD2, hW2⟩
                   have D2 : Hid (Dat w2 g ex ((A ++ X1) ++ (L2 ++ (M2 ++ C)))) := by show Dat _ _ _ _; rw [List.append_assoc]; exact hD2
                   have Mg1 := hid hm1
                   have W2 := hid (W1.out.trans hW2)
                   clear hD2 hW2 hm1 C2
                   have hP : Hid ((A ++ X1).length = mid) := by show _ = _; rw [List.length_append, Mg1.out.1.length_eq, List.length_append]; have := ha.out; have := LL1.out; have := LM1.out; omega
                   have C3 := hid (I2.out ⟨g3a, g3b⟩ (A ++ X1) hP w2 D2 W2)
                   go_wp2_with fail
                   refine C3.out.mono ?_
                   rintro e w3 ⟨X2, rfl, hm2, hD3, hW3⟩
                   have D3 := hid hD3
                   have Mg2 := hid hm2
                   have W3 := hid (W2.out.trans hW3)
                   clear hD3 hW3 hm2 C3
                   have hfin := hid (FIN.out X1 X2 Mg1.out Mg2.out)
                   have hdat : Hid (Dat w3 g ex (A ++ ((X1 ++ X2) ++ C))) := by show Dat _ _ _ _; have h := D3.out; simpa only [List.append_assoc] using h
                   go_wp2
                   go_end0
                   exact ⟨X1 ++ X2, rfl, hfin.out, hdat.out, W3.out⟩)
            · obtain ⟨g2a, g2b⟩ := g2
              have g2c : (a : Int) < (s : Int) := by omega
              have g2d : (s : Int) < (mid : Int) := by omega
              by_cases g1h : s < m
              · have g1c : (s : Int) < (m : Int) := by omega
                have g1d : ¬ (m : Int) < (en : Int) := by omega
                by_cases g3h : mid < en
                · have g3c : (mid : Int) < (en : Int) := by omega
                  have g3d : ¬ (en : Int) < (b : Int) := by omega
                  first
                  | (exfalso; omega)
                  | (have D1 : Hid (Dat wr g ex (A ++ (L1 ++ (M1 ++ (L2 ++ (M2 ++ C)))))) := N1.out g1
                     have W1 := hW
                     have C2 := hid (I1.out ⟨g2a, g2b⟩ wr D1 W1)
                     go_wp2_with fail
                     refine C2.out.mono ?_
                     rintro e w2 ⟨X1, rfl, hm1, hD2, hW2⟩
                     have D2 : Hid (Dat w2 g ex ((A ++ X1) ++ (L2 ++ (M2 ++ C)))) := by show Dat _ _ _ _; rw [List.append_assoc]; exact hD2
                     have Mg1 := hid hm1
                     have W2 := hid (W1.out.trans hW2)
                     clear hD2 hW2 hm1 C2
                     have hP : Hid ((A ++ X1).length = mid) := by show _ = _; rw [List.length_append, Mg1.out.1.length_eq, List.length_append]; have := ha.out; have := LL1.out; have := LM1.out; omega
                     obtain ⟨X2, hX2⟩ : ∃ X2, X2 = L2 ++ M2 := ⟨_, rfl⟩
                     have Mg2 : Hid (Mg R (L2 ++ M2) X2) := by rw [hX2]; exact N3.out g3
                     have D3 : Hid (Dat w2 g ex ((A ++ X1) ++ (X2 ++ C))) := by show Dat _ _ _ _; rw [hX2]; have h := D2.out; simpa only [List.append_assoc] using h
                     have W3 := W2
                     clear hX2
                     have hfin := hid (FIN.out X1 X2 Mg1.out Mg2.out)
                     have hdat : Hid (Dat w2 g ex (A ++ ((X1 ++ X2) ++ C))) := by show Dat _ _ _ _; have h := D3.out; simpa only [List.append_assoc] using h
                     go_wp2
                     go_end0
                     exact ⟨X1 ++ X2, rfl, hfin.out, hdat.out, W3.out⟩)
                · have g3c : ¬ (mid : Int) < (en : Int) := by omega
                  first
                  | (exfalso; omega)
                  | (have D1 : Hid (Dat wr g ex (A ++ (L1 ++ (M1 ++ (L2 ++ (M2 ++ C)))))) := N1.out g1
                     have W1 := hW
                     have C2 := hid (I1.out ⟨g2a, g2b⟩ wr D1 W1)
                     go_wp2_with fail
                     refine C2.out.mono ?_
                     rintro e w2 ⟨X1, rfl, hm1, hD2, hW2⟩
                     have D2 : Hid (Dat w2 g ex ((A ++ X1) ++ (L2 ++ (M2 ++ C)))) := by show Dat _ _ _ _; rw [List.append_assoc]; exact hD2
                     have Mg1 := hid hm1
                     have W2 := hid (W1.out.trans hW2)
                     clear hD2 hW2 hm1 C2
                     have hP : Hid ((A ++ X1).length = mid) := by show _ = _; rw [List.length_append, Mg1.out.1.length_eq, List.length_append]; have := ha.out; have := LL1.out; have := LM1.out; omega
                     obtain ⟨X2, hX2⟩ : ∃ X2, X2 = L2 ++ M2 := ⟨_, rfl⟩
                     have Mg2 : Hid (Mg R (L2 ++ M2) X2) := by rw [hX2]; exact N3.out g3
                     have D3 : Hid (Dat w2 g ex ((A ++ X1) ++ (X2 ++ C))) := by show Dat _ _ _ _; rw [hX2]; have h := D2.out; simpa only [List.append_assoc] using h
                     have W3 := W2
                     clear hX2
                     have hfin := hid (FIN.out X1 X2 Mg1.out Mg2.out)
                     have hdat : Hid (Dat w2 g ex (A ++ ((X1 ++ X2) ++ C))) := by show Dat _ _ _ _; have h := D3.out; simpa only [List.append_assoc] using h
                     go_wp2
                     go_end0
                     exact ⟨X1 ++ X2, rfl, hfin.out, hdat.out, W3.out⟩)
              · have g1c : ¬ (s : Int) < (m : Int) := by omega
                by_cases g3h : mid < en
                · have g3c : (mid : Int) < (en : Int) := by omega
                  have g3d : ¬ (en : Int) < (b : Int) := by omega
                  first
                  | (exfalso; omega)
                  | (have D1 : Hid (Dat wr g ex (A ++ (L1 ++ (M1 ++ (L2 ++ (M2 ++ C)))))) := N1.out g1
                     have W1 := hW
                     have C2 := hid (I1.out ⟨g2a, g2b⟩ wr D1 W1)
                     go_wp2_with fail
                     refine C2.out.mono ?_
                     rintro e w2 ⟨X1, rfl, hm1, hD2, hW2⟩
                     have D2 : Hid (Dat w2 g ex ((A ++ X1) ++ (L2 ++ (M2 ++ C)))) := by show Dat _ _ _ _; rw [List.append_assoc]; exact hD2
                     have Mg1 := hid hm1
                     have W2 := hid (W1.out.trans hW2)
                     clear hD2 hW2 hm1 C2
                     have hP : Hid ((A ++ X1).length = mid) := by show _ = _; rw [List.length_append, Mg1.out.1.length_eq, List.length_append]; have := ha.out; have := LL1.out; have := LM1.out; omega
                     obtain ⟨X2, hX2⟩ : ∃ X2, X2 = L2 ++ M2 := ⟨_, rfl⟩
                     have Mg2 : Hid (Mg R (L2 ++ M2) X2) := by rw [hX2]; exact N3.out g3
                     have D3 : Hid (Dat w2 g ex ((A ++ X1) ++ (X2 ++ C))) := by show Dat _ _ _ _; rw [hX2]; have h := D2.out; simpa only [List.append_assoc] using h
                     have W3 := W2
                     clear hX2
                     have hfin := hid (FIN.out X1 X2 Mg1.out Mg2.out)
                     have hdat : Hid (Dat w2 g ex (A ++ ((X1 ++ X2) ++ C))) := by show Dat _ _ _ _; have h := D3.out; simpa only [List.append_assoc] using h
                     go_wp2
                     go_end0
                     exact ⟨X1 ++ X2, rfl, hfin.out, hdat.out, W3.out⟩)
                · have g3c : ¬ (mid : Int) < (en : Int) := by omega
                  first
                  | (exfalso; omega)
                  | (have D1 : Hid (Dat wr g ex (A ++ (L1 ++ (M1 ++ (L2 ++ (M2 ++ C)))))) := N1.out g1
                     have W1 := hW
                     have C2 := hid (I1.out ⟨g2a, g2b⟩ wr D1 W1)
                     go_wp2_with fail
                     refine C2.out.mono ?_
                     rintro e w2 ⟨X1, rfl, hm1, hD2, hW2⟩
                     have D2 : Hid (Dat w2 g ex ((A ++ X1) ++ (L2 ++ (M2 ++ C)))) := by show Dat _ _ _ _; rw [List.append_assoc]; exact hD2
                     have Mg1 := hid hm1
                     have W2 := hid (W1.out.trans hW2)
                     clear hD2 hW2 hm1 C2
                     have hP : Hid ((A ++ X1).length = mid) := by show _ = _; rw [List.length_append, Mg1.out.1.length_eq, List.length_append]; have := ha.out; have := LL1.out; have := LM1.out; omega
                     obtain ⟨X2, hX2⟩ : ∃ X2, X2 = L2 ++ M2 := ⟨_, rfl⟩
                     have Mg2 : Hid (Mg R (L2 ++ M2) X2) := by rw [hX2]; exact N3.out g3
                     have D3 : Hid (Dat w2 g ex ((A ++ X1) ++ (X2 ++ C))) := by show Dat _ _ _ _; rw [hX2]; have h := D2.out; simpa only [List.append_assoc] using h
                     have W3 := W2
                     clear hX2
                     have hfin := hid (FIN.out X1 X2 Mg1.out Mg2.out)
                     have hdat : Hid (Dat w2 g ex (A ++ ((X1 ++ X2) ++ C))) := by show Dat _ _ _ _; have h := D3.out; simpa only [List.append_assoc] using h
                     go_wp2
                     go_end0
                     exact ⟨X1 ++ X2, rfl, hfin.out, hdat.out, W3.out⟩)
          · by_cases g3 : mid < en ∧ en < b
            · obtain ⟨g3a, g3b⟩ := g3
              have g3c : (mid : Int) < (en : Int) := by omega
              have g3d : (en : Int) < (b : Int) := by omega
              by_cases g1h : s < m
              · have g1c : (s : Int) < (m : Int) := by omega
                have g1d : ¬ (m : Int) < (en : Int) := by omega
                by_cases g2h : a < s
                · have g2c : (a : Int) < (s : Int) := by omega
                  have g2d : ¬ (s : Int) < (mid : Int) := by omega
                  first
                  | (exfalso; omega)
                  | (have D1 : Hid (Dat wr g ex (A ++ (L1 ++ (M1 ++ (L2 ++ (M2 ++ C)))))) := N1.out g1
                     have W1 := hW
                     obtain ⟨X1, hX1⟩ : ∃ X1, X1 = L1 ++ M1 := ⟨_, rfl⟩
                     have Mg1 : Hid (Mg R (L1 ++ M1) X1) := by rw [hX1]; exact N2.out g2
                     have D2 : Hid (Dat wr g ex ((A ++ X1) ++ (L2 ++ (M2 ++ C)))) := by show Dat _ _ _ _; rw [hX1]; have h := D1.out; simpa only [List.append_assoc] using h
                     have W2 := W1
                     clear hX1
                     have hP : Hid ((A ++ X1).length = mid) := by show _ = _; rw [List.length_append, Mg1.out.1.length_eq, List.length_append]; have := ha.out; have := LL1.out; have := LM1.out; omega
                     have C3 := hid (I2.out ⟨g3a, g3b⟩ (A ++ X1) hP wr D2 W2)
                     go_wp2_with fail
                     refine C3.out.mono ?_
                     rintro e w3 ⟨X2, rfl, hm2, hD3, hW3⟩
                     have D3 := hid hD3
                     have Mg2 := hid hm2
                     have W3 := hid (W2.out.trans hW3)
                     clear hD3 hW3 hm2 C3
                     have hfin := hid (FIN.out X1 X2 Mg1.out Mg2.out)
                     have hdat : Hid (Dat w3 g ex (A ++ ((X1 ++ X2) ++ C))) := by show Dat _ _ _ _; have h := D3.out; simpa only [List.append_assoc] using h
                     go_wp2
                     go_end0
                     exact ⟨X1 ++ X2, rfl, hfin.out, hdat.out, W3.out⟩)
                · have g2c : ¬ (a : Int) < (s : Int) := by omega
                  first
                  | (exfalso; omega)
                  | (have D1 : Hid (Dat wr g ex (A ++ (L1 ++ (M1 ++ (L2 ++ (M2 ++ C)))))) := N1.out g1
                     have W1 := hW
                     obtain ⟨X1, hX1⟩ : ∃ X1, X1 = L1 ++ M1 := ⟨_, rfl⟩
                     have Mg1 : Hid (Mg R (L1 ++ M1) X1) := by rw [hX1]; exact N2.out g2
                     have D2 : Hid (Dat wr g ex ((A ++ X1) ++ (L2 ++ (M2 ++ C)))) := by show Dat _ _ _ _; rw [hX1]; have h := D1.out; simpa only [List.append_assoc] using h
                     have W2 := W1
                     clear hX1
                     have hP : Hid ((A ++ X1).length = mid) := by show _ = _; rw [List.length_append, Mg1.out.1.length_eq, List.length_append]; have := ha.out; have := LL1.out; have := LM1.out; omega
                     have C3 := hid (I2.out ⟨g3a, g3b⟩ (A ++ X1) hP wr D2 W2)
                     go_wp2_with fail
                     refine C3.out.mono ?_
                     rintro e w3 ⟨X2, rfl, hm2, hD3, hW3⟩
                     have D3 := hid hD3
                     have Mg2 := hid hm2
                     have W3 := hid (W2.out.trans hW3)
                     clear hD3 hW3 hm2 C3
                     have hfin := hid (FIN.out X1 X2 Mg1.out Mg2.out)
                     have hdat : Hid (Dat w3 g ex (A ++ ((X1 ++ X2) ++ C))) := by show Dat _ _ _ _; have h := D3.out; simpa only [List.append_assoc] using h
                     go_wp2
                     go_end0
                     exact ⟨X1 ++ X2, rfl, hfin.out, hdat.out, W3.out⟩)
              · have g1c : ¬ (s : Int) < (m : Int) := by omega
                by_cases g2h : a < s
                · have g2c : (a : Int) < (s : Int) := by omega
                  have g2d : ¬ (s : Int) < (mid : Int) := by omega
                  first
                  | (exfalso; omega)
                  | (have D1 : Hid (Dat wr g ex (A ++ (L1 ++ (M1 ++ (L2 ++ (M2 ++ C)))))) := N1.out g1
                     have W1 := hW
                     obtain ⟨X1, hX1⟩ : ∃ X1, X1 = L1 ++ M1 := ⟨_, rfl⟩
                     have Mg1 : Hid (Mg R (L1 ++ M1) X1) := by rw [hX1]; exact N2.out g2
                     have D2 : Hid (Dat wr g ex ((A ++ X1) ++ (L2 ++ (M2 ++ C)))) := by show Dat _ _ _ _; rw [hX1]; have h := D1.out; simpa only [List.append_assoc] using h
                     have W2 := W1
                     clear hX1
                     have hP : Hid ((A ++ X1).length = mid) := by show _ = _; rw [List.length_append, Mg1.out.1.length_eq, List.length_append]; have := ha.out; have := LL1.out; have := LM1.out; omega
                     have C3 := hid (I2.out ⟨g3a, g3b⟩ (A ++ X1) hP wr D2 W2)
                     go_wp2_with fail
                     refine C3.out.mono ?_
                     rintro e w3 ⟨X2, rfl, hm2, hD3, hW3⟩
                     have D3 := hid hD3
                     have Mg2 := hid hm2
                     have W3 := hid (W2.out.trans hW3)
                     clear hD3 hW3 hm2 C3
                     have hfin := hid (FIN.out X1 X2 Mg1.out Mg2.out)
                     have hdat : Hid (Dat w3 g ex (A ++ ((X1 ++ X2) ++ C))) := by show Dat _ _ _ _; have h := D3.out; simpa only [List.append_assoc] using h
                     go_wp2
                     go_end0
                     exact ⟨X1 ++ X2, rfl, hfin.out, hdat.out, W3.out⟩)
                · have g2c : ¬ (a : Int) < (s : Int) := by omega
                  first
                  | (exfalso; omega)
                  | (have D1 : Hid (Dat wr g ex (A ++ (L1 ++ (M1 ++ (L2 ++ (M2 ++ C)))))) := N1.out g1
                     have W1 := hW
                     obtain ⟨X1, hX1⟩ : ∃ X1, X1 = L1 ++ M1 := ⟨_, rfl⟩
                     have Mg1 : Hid (Mg R (L1 ++ M1) X1) := by rw [hX1]; exact N2.out g2
                     have D2 : Hid (Dat wr g ex ((A ++ X1) ++ (L2 ++ (M2 ++ C)))) := by show Dat _ _ _ _; rw [hX1]; have h := D1.out; simpa only [List.append_assoc] using h
                     have W2 := W1
                     clear hX1
                     have hP : Hid ((A ++ X1).length = mid) := by show _ = _; rw [List.length_append, Mg1.out.1.length_eq, List.length_append]; have := ha.out; have := LL1.out; have := LM1.out; omega
                     have C3 := hid (I2.out ⟨g3a, g3b⟩ (A ++ X1) hP wr D2 W2)
                     go_wp2_with fail
                     refine C3.out.mono ?_
                     rintro e w3 ⟨X2, rfl, hm2, hD3, hW3⟩
                     have D3 := hid hD3
                     have Mg2 := hid hm2
                     have W3 := hid (W2.out.trans hW3)
                     clear hD3 hW3 hm2 C3
                     have hfin := hid (FIN.out X1 X2 Mg1.out Mg2.out)
                     have hdat : Hid (Dat w3 g ex (A ++ ((X1 ++ X2) ++ C))) := by show Dat _ _ _ _; have h := D3.out; simpa only [List.append_assoc] using h
                     go_wp2
                     go_end0
                     exact ⟨X1 ++ X2, rfl, hfin.out, hdat.out, W3.out⟩)
            · by_cases g1h : s < m
              · have g1c : (s : Int) < (m : Int) := by omega
                have g1d : ¬ (m : Int) < (en : Int) := by omega
                by_cases g2h : a < s
                · have g2c : (a : Int) < (s : Int) := by omega
                  have g2d : ¬ (s : Int) < (mid : Int) := by omega
                  by_cases g3h : mid < en
                  · have g3c : (mid : Int) < (en : Int) := by omega
                    have g3d : ¬ (en : Int) < (b : Int) := by omega
                    first
                    | (exfalso; omega)
                    | (have D1 : Hid (Dat wr g ex (A ++ (L1 ++ (M1 ++ (L2 ++ (M2 ++ C)))))) := N1.out g1
                       have W1 := hW
                       obtain ⟨X1, hX1⟩ : ∃ X1, X1 = L1 ++ M1 := ⟨_, rfl⟩
                       have Mg1 : Hid (Mg R (L1 ++ M1) X1) := by rw [hX1]; exact N2.out g2
                       have D2 : Hid (Dat wr g ex ((A ++ X1) ++ (L2 ++ (M2 ++ C)))) := by show Dat _ _ _ _; rw [hX1]; have h := D1.out; simpa only [List.append_assoc] using h
                       have W2 := W1
                       clear hX1
                       have hP : Hid ((A ++ X1).length = mid) := by show _ = _; rw [List.length_append, Mg1.out.1.length_eq, List.length_append]; have := ha.out; have := LL1.out; have := LM1.out; omega
                       obtain ⟨X2, hX2⟩ : ∃ X2, X2 = L2 ++ M2 := ⟨_, rfl⟩
                       have Mg2 : Hid (Mg R (L2 ++ M2) X2) := by rw [hX2]; exact N3.out g3
                       have D3 : Hid (Dat wr g ex ((A ++ X1) ++ (X2 ++ C))) := by show Dat _ _ _ _; rw [hX2]; have h := D2.out; simpa only [List.append_assoc] using h
                       have W3 := W2
                       clear hX2
                       have hfin := hid (FIN.out X1 X2 Mg1.out Mg2.out)
                       have hdat : Hid (Dat wr g ex (A ++ ((X1 ++ X2) ++ C))) := by show Dat _ _ _ _; have h := D3.out; simpa only [List.append_assoc] using h
                       go_wp2
                       go_end0
                       exact ⟨X1 ++ X2, rfl, hfin.out, hdat.out, W3.out⟩)
                  · have g3c : ¬ (mid : Int) < (en : Int) := by omega
                    first
                    | (exfalso; omega)
                    | (have D1 : Hid (Dat wr g ex (A ++ (L1 ++ (M1 ++ (L2 ++ (M2 ++ C)))))) := N1.out g1
                       have W1 := hW
                       obtain ⟨X1, hX1⟩ : ∃ X1, X1 = L1 ++ M1 := ⟨_, rfl⟩
                       have Mg1 : Hid (Mg R (L1 ++ M1) X1) := by rw [hX1]; exact N2.out g2
                       have D2 : Hid (Dat wr g ex ((A ++ X1) ++ (L2 ++ (M2 ++ C)))) := by show Dat _ _ _ _; rw [hX1]; have h := D1.out; simpa only [List.append_assoc] using h
                       have W2 := W1
                       clear hX1
                       have hP : Hid ((A ++ X1).length = mid) := by show _ = _; rw [List.length_append, Mg1.out.1.length_eq, List.length_append]; have := ha.out; have := LL1.out; have := LM1.out; omega
                       obtain ⟨X2, hX2⟩ : ∃ X2, X2 = L2 ++ M2 := ⟨_, rfl⟩
                       have Mg2 : Hid (Mg R (L2 ++ M2) X2) := by rw [hX2]; exact N3.out g3
                       have D3 : Hid (Dat wr g ex ((A ++ X1) ++ (X2 ++ C))) := by show Dat _ _ _ _; rw [hX2]; have h := D2.out; simpa only [List.append_assoc] using h
                       have W3 := W2
                       clear hX2
                       have hfin := hid (FIN.out X1 X2 Mg1.out Mg2.out)
                       have hdat : Hid (Dat wr g ex (A ++ ((X1 ++ X2) ++ C))) := by show Dat _ _ _ _; have h := D3.out; simpa only [List.append_assoc] using h
                       go_wp2
                       go_end0
                       exact ⟨X1 ++ X2, rfl, hfin.out, hdat.out, W3.out⟩)
                · have g2c : ¬ (a : Int) < (s : Int) := by omega
                  by_cases g3h : mid < en
                  · have g3c : (mid : Int) < (en : Int) := by omega
                    have g3d : ¬ (en : Int) < (b : Int) := by omega
                    first
                    | (exfalso; omega)
                    | (have D1 : Hid (Dat wr g ex (A ++ (L1 ++ (M1 ++ (L2 ++ (M2 ++ C)))))) := N1.out g1
                       have W1 := hW
                       obtain ⟨X1, hX1⟩ : ∃ X1, X1 = L1 ++ M1 := ⟨_, rfl⟩
                       have Mg1 : Hid (Mg R (L1 ++ M1) X1) := by rw [hX1]; exact N2.out g2
                       have D2 : Hid (Dat wr g ex ((A ++ X1) ++ (L2 ++ (M2 ++ C)))) := by show Dat _ _ _ _; rw [hX1]; have h := D1.out; simpa only [List.append_assoc] using h
                       have W2 := W1
                       clear hX1
                       have hP : Hid ((A ++ X1).length = mid) := by show _ = _; rw [List.length_append, Mg1.out.1.length_eq, List.length_append]; have := ha.out; have := LL1.out; have := LM1.out; omega
                       obtain ⟨X2, hX2⟩ : ∃ X2, X2 = L2 ++ M2 := ⟨_, rfl⟩
                       have Mg2 : Hid (Mg R (L2 ++ M2) X2) := by rw [hX2]; exact N3.out g3
                       have D3 : Hid (Dat wr g ex ((A ++ X1) ++ (X2 ++ C))) := by show Dat _ _ _ _; rw [hX2]; have h := D2.out; simpa only [List.append_assoc] using h
                       have W3 := W2
                       clear hX2
                       have hfin := hid (FIN.out X1 X2 Mg1.out Mg2.out)
                       have hdat : Hid (Dat wr g ex (A ++ ((X1 ++ X2) ++ C))) := by show Dat _ _ _ _; have h := D3.out; simpa only [List.append_assoc] using h
                       go_wp2
                       go_end0
                       exact ⟨X1 ++ X2, rfl, hfin.out, hdat.out, W3.out⟩)
                  · have g3c : ¬ (mid : Int) < (en : Int) := by omega
                    first
                    | (exfalso; omega)
                    | (have D1 : Hid (Dat wr g ex (A ++ (L1 ++ (M1 ++ (L2 ++ (M2 ++ C)))))) := N1.out g1
                       have W1 := hW
                       obtain ⟨X1, hX1⟩ : ∃ X1, X1 = L1 ++ M1 := ⟨_, rfl⟩
                       have Mg1 : Hid (Mg R (L1 ++ M1) X1) := by rw [hX1]; exact N2.out g2
                       have D2 : Hid (Dat wr g ex ((A ++ X1) ++ (L2 ++ (M2 ++ C)))) := by show Dat _ _ _ _; rw [hX1]; have h := D1.out; simpa only [List.append_assoc] using h
                       have W2 := W1
                       clear hX1
                       have hP : Hid ((A ++ X1).length = mid) := by show _ = _; rw [List.length_append, Mg1.out.1.length_eq, List.length_append]; have := ha.out; have := LL1.out; have := LM1.out; omega
                       obtain ⟨X2, hX2⟩ : ∃ X2, X2 = L2 ++ M2 := ⟨_, rfl⟩
                       have Mg2 : Hid (Mg R (L2 ++ M2) X2) := by rw [hX2]; exact N3.out g3
                       have D3 : Hid (Dat wr g ex ((A ++ X1) ++ (X2 ++ C))) := by show Dat _ _ _ _; rw [hX2]; have h := D2.out; simpa only [List.append_assoc] using h
                       have W3 := W2
                       clear hX2
                       have hfin := hid (FIN.out X1 X2 Mg1.out Mg2.out)
                       have hdat : Hid (Dat wr g ex (A ++ ((X1 ++ X2) ++ C))) := by show Dat _ _ _ _; have h := D3.out; simpa only [List.append_assoc] using h
                       go_wp2
                       go_end0
                       exact ⟨X1 ++ X2, rfl, hfin.out, hdat.out, W3.out⟩)
              · have g1c : ¬ (s : Int) < (m : Int) := by omega
                by_cases g2h : a < s
                · have g2c : (a : Int) < (s : Int) := by omega
                  have g2d : ¬ (s : Int) < (mid : Int) := by omega
                  by_cases g3h : mid < en
                  · have g3c : (mid : Int) < (en : Int) := by omega
                    have g3d : ¬ (en : Int) < (b : Int) := by omega
                    first
                    | (exfalso; omega)
                    | (have D1 : Hid (Dat wr g ex (A ++ (L1 ++ (M1 ++ (L2 ++ (M2 ++ C)))))) := N1.out g1
                       have W1 := hW
                       obtain ⟨X1, hX1⟩ : ∃ X1, X1 = L1 ++ M1 := ⟨_, rfl⟩
                       have Mg1 : Hid (Mg R (L1 ++ M1) X1) := by rw [hX1]; exact N2.out g2
                       have D2 : Hid (Dat wr g ex ((A ++ X1) ++ (L2 ++ (M2 ++ C)))) := by show Dat _ _ _ _; rw [hX1]; have h := D1.out; simpa only [List.append_assoc] using h
                       have W2 := W1
                       clear hX1
                       have hP : Hid ((A ++ X1).length = mid) := by show _ = _; rw [List.length_append, Mg1.out.1.length_eq, List.length_append]; have := ha.out; have := LL1.out; have := LM1.out; omega
                       obtain ⟨X2, hX2⟩ : ∃ X2, X2 = L2 ++ M2 := ⟨_, rfl⟩
                       have Mg2 : Hid (Mg R (L2 ++ M2) X2) := by rw [hX2]; exact N3.out g3
                       have D3 : Hid (Dat wr g ex ((A ++ X1) ++ (X2 ++ C))) := by show Dat _ _ _ _; rw [hX2]; have h := D2.out; simpa only [List.append_assoc] using h
                       have W3 := W2
                       clear hX2
                       have hfin := hid (FIN.out X1 X2 Mg1.out Mg2.out)
                       have hdat : Hid (Dat wr g ex (A ++ ((X1 ++ X2) ++ C))) := by show Dat _ _ _ _; have h := D3.out; simpa only [List.append_assoc] using h
                       go_wp2
                       go_end0
                       exact ⟨X1 ++ X2, rfl, hfin.out, hdat.out, W3.out⟩)
                  · have g3c : ¬ (mid : Int) < (en : Int) := by omega
                    first
                    | (exfalso; omega)
                    | (have D1 : Hid (Dat wr g ex (A ++ (L1 ++ (M1 ++ (L2 ++ (M2 ++ C)))))) := N1.out g1
                       have W1 := hW
                       obtain ⟨X1, hX1⟩ : ∃ X1, X1 = L1 ++ M1 := ⟨_, rfl⟩
                       have Mg1 : Hid (Mg R (L1 ++ M1) X1) := by rw [hX1]; exact N2.out g2
                       have D2 : Hid (Dat wr g ex ((A ++ X1) ++ (L2 ++ (M2 ++ C)))) := by show Dat _ _ _ _; rw [hX1]; have h := D1.out; simpa only [List.append_assoc] using h
                       have W2 := W1
                       clear hX1
                       have hP : Hid ((A ++ X1).length = mid) := by show _ = _; rw [List.length_append, Mg1.out.1.length_eq, List.length_append]; have := ha.out; have := LL1.out; have := LM1.out; omega
                       obtain ⟨X2, hX2⟩ : ∃ X2, X2 = L2 ++ M2 := ⟨_, rfl⟩
                       have Mg2 : Hid (Mg R (L2 ++ M2) X2) := by rw [hX2]; exact N3.out g3
                       have D3 : Hid (Dat wr g ex ((A ++ X1) ++ (X2 ++ C))) := by show Dat _ _ _ _; rw [hX2]; have h := D2.out; simpa only [List.append_assoc] using h
                       have W3 := W2
                       clear hX2
                       have hfin := hid (FIN.out X1 X2 Mg1.out Mg2.out)
                       have hdat : Hid (Dat wr g ex (A ++ ((X1 ++ X2) ++ C))) := by show Dat _ _ _ _; have h := D3.out; simpa only [List.append_assoc] using h
                       go_wp2
                       go_end0
                       exact ⟨X1 ++ X2, rfl, hfin.out, hdat.out, W3.out⟩)
                · have g2c : ¬ (a : Int) < (s : Int) := by omega
                  by_cases g3h : mid < en
                  · have g3c : (mid : Int) < (en : Int) := by omega
                    have g3d : ¬ (en : Int) < (b : Int) := by omega
                    first
                    | (exfalso; omega)
                    | (have D1 : Hid (Dat wr g ex (A ++ (L1 ++ (M1 ++ (L2 ++ (M2 ++ C)))))) := N1.out g1
                       have W1 := hW
                       obtain ⟨X1, hX1⟩ : ∃ X1, X1 = L1 ++ M1 := ⟨_, rfl⟩
                       have Mg1 : Hid (Mg R (L1 ++ M1) X1) := by rw [hX1]; exact N2.out g2
                       have D2 : Hid (Dat wr g ex ((A ++ X1) ++ (L2 ++ (M2 ++ C)))) := by show Dat _ _ _ _; rw [hX1]; have h := D1.out; simpa only [List.append_assoc] using h
                       have W2 := W1
                       clear hX1
                       have hP : Hid ((A ++ X1).length = mid) := by show _ = _; rw [List.length_append, Mg1.out.1.length_eq, List.length_append]; have := ha.out; have := LL1.out; have := LM1.out; omega
                       obtain ⟨X2, hX2⟩ : ∃ X2, X2 = L2 ++ M2 := ⟨_, rfl⟩
                       have Mg2 : Hid (Mg R (L2 ++ M2) X2) := by rw [hX2]; exact N3.out g3
                       have D3 : Hid (Dat wr g ex ((A ++ X1) ++ (X2 ++ C))) := by show Dat _ _ _ _; rw [hX2]; have h := D2.out; simpa only [List.append_assoc] using h
                       have W3 := W2
                       clear hX2
                       have hfin := hid (FIN.out X1 X2 Mg1.out Mg2.out)
                       have hdat : Hid (Dat wr g ex (A ++ ((X1 ++ X2) ++ C))) := by show Dat _ _ _ _; have h := D3.out; simpa only [List.append_assoc] using h
                       go_wp2
                       go_end0
                       exact ⟨X1 ++ X2, rfl, hfin.out, hdat.out, W3.out⟩)
                  · have g3c : ¬ (mid : Int) < (en : Int) := by omega
                    first
                    | (exfalso; omega)
                    | (have D1 : Hid (Dat wr g ex (A ++ (L1 ++ (M1 ++ (L2 ++ (M2 ++ C)))))) := N1.out g1
                       have W1 := hW
                       obtain ⟨X1, hX1⟩ : ∃ X1, X1 = L1 ++ M1 := ⟨_, rfl⟩
                       have Mg1 : Hid (Mg R (L1 ++ M1) X1) := by rw [hX1]; exact N2.out g2
                       have D2 : Hid (Dat wr g ex ((A ++ X1) ++ (L2 ++ (M2 ++ C)))) := by show Dat _ _ _ _; rw [hX1]; have h := D1.out; simpa only [List.append_assoc] using h
                       have W2 := W1
                       clear hX1
                       have hP : Hid ((A ++ X1).length = mid) := by show _ = _; rw [List.length_append, Mg1.out.1.length_eq, List.length_append]; have := ha.out; have := LL1.out; have := LM1.out; omega
                       obtain ⟨X2, hX2⟩ : ∃ X2, X2 = L2 ++ M2 := ⟨_, rfl⟩
                       have Mg2 : Hid (Mg R (L2 ++ M2) X2) := by rw [hX2]; exact N3.out g3
                       have D3 : Hid (Dat wr g ex ((A ++ X1) ++ (X2 ++ C))) := by show Dat _ _ _ _; rw [hX2]; have h := D2.out; simpa only [List.append_assoc] using h
                       have W3 := W2
                       clear hX2
                       have hfin := hid (FIN.out X1 X2 Mg1.out Mg2.out)
                       have hdat : Hid (Dat wr g ex (A ++ ((X1 ++ X2) ++ C))) := by show Dat _ _ _ _; have h := D3.out; simpa only [List.append_assoc] using h
                       go_wp2
                       go_end0
                       exact ⟨X1 ++ X2, rfl, hfin.out, hdat.out, W3.out⟩)
  · have SB : SymLo a m b mid nn a m := ⟨by omega, by omega, by omega, by omega, by omega, .inl rfl, .inl rfl⟩
    have hgti : ¬ (mid : Int) < (m : Int) := by omega
    clear hnl hnm
    go_enter Try.func138, Try.ntmps138
    go_wp2
    clear v0 v1 v2 v3 v6
    clear v4 v5
    go_loopw [20, 21] (fun ti tj wr => ∃ lo hi s r : Nat, ti = .int .i64 s ∧ tj = .int .i64 r ∧ SymLo a m b mid nn lo hi ∧ lo ≤ s ∧ s ≤ r ∧ r ≤ hi ∧ Hid (s = lo ∨ ∀ u v, X[nn - s]? = some u → X[s - 1]? = some v → ltC cf u v = false) ∧ Hid (r = hi ∨ ∀ u v, X[nn - 1 - r]? = some u → X[r]? = some v → ltC cf u v = true) ∧ Hid (Dat wr g ex X) ∧ Hid (Bes g B w wr)) (fun ti tj _ => (intOf tj).toNat - (intOf ti).toNat)
    case atStart => exact ⟨_, _, _, _, rfl, rfl, SB, Nat.le_refl _, SB.le, Nat.le_refl _, .inl rfl, .inl rfl, D0, Bes.refl _ _ _⟩
    case round =>
      obtain ⟨lo, hi, s, r, rfl, rfl, hSB, h1, h2, h3, hI, hJ, hD, hW⟩ := hrel
      obtain ⟨q1, q2, q3, q4, q5, q6, q7⟩ := hSB
      by_cases hlt : s < r
      · have hi' : (s : Int) < (r : Int) := by omega
        obtain ⟨h, hh⟩ : ∃ h, h = (s + r) / 2 := ⟨_, rfl⟩
        have hh1 : s ≤ h ∧ h < r := by omega
        have hhd : ((s : Int) + (r : Int)) / 2 = (h : Int) := by omega
        obtain ⟨pc, hpc⟩ : ∃ pc, pc = nn - 1 - h := ⟨_, rfl⟩
        have hXl := XL.out
        obtain ⟨u, e1⟩ : ∃ u, X[pc]? = some u := ⟨_, List.getElem?_eq_getElem (by omega)⟩
        obtain ⟨u', e2⟩ : ∃ u, X[h]? = some u := ⟨_, List.getElem?_eq_getElem (by omega)⟩
        have hEu : E u := HE.out u (by rw [XE.out, seg2 (m := m) (by have := ha.out; have := hm.out; omega) (by omega) (by have := hb.out; omega)] at e1; exact List.mem_append_right _ (List.mem_of_getElem? e1))
        have hEl : E u' := HE.out u' (by rw [XE.out, seg1 ha.out (by omega) (by have := hm.out; omega)] at e2; exact List.mem_append_left _ (List.mem_of_getElem? e2))
        have c1 := (hD.out.at_ e1).1
        have c2 := (hD.out.at_ e2).1
        have b1 : (pc : Int) < (N : Int) := by omega
        have b2 : (h : Int) < (N : Int) := by omega
        obtain ⟨v, hv⟩ : ∃ v, v = cf u u' := ⟨_, rfl⟩
        have k1 : ∀ p', (behind wr p').cell? ⟨g, pc, none⟩ = some (.int .i64 u) := cell_behind c1
        have k2 : ∀ p', (behind wr p').cell? ⟨g, h, none⟩ = some (.int .i64 u') := cell_behind c2
        have CB : Hid (∀ p', Calls Try.prog f (#[.int .i64 u, .int .i64 u'] ++ cb) (behind wr p') fun e w'' => e = .returned (.int .i64 v) ∧ ∃ q : BehindBy, w'' = behind wr q) := fun p' => by
          rw [hv]
          exact calls_behind (HC.out.call _ (W0.out.trans (hW.out.call (behind_below wr p') (Nat.le_trans HC.out.room W0.out.size))) u u' hEu hEl)
        have hltv : ltC cf u u' = decide (v < 0) := by rw [hv]; rfl
        have LV := hid hltv
        have E1 := hid e1
        have E2 := hid e2
        have hpc1 : pc + h + 1 ≤ nn ∧ nn ≤ pc + h + 1 := by omega
        have v8 : IntKind.i64.wrap ((pp : Int) - (h : Int)) = (pc : Int) := by rw [IntKind.wrap_i64]; omega
        clear hh e1 e2 c1 c2 hEu hEl hv hltv hpc hXl
        by_cases hvz : v < 0
        · have hvd : decide (v < 0) = true := decide_eq_true hvz
          have hJ2 : Hid (h = hi ∨ ∀ u v, X[nn - 1 - h]? = some u → X[h]? = some v → ltC cf u v = true) := .inr fun x y hx hy => by
            rw [show nn - 1 - h = pc by omega, E1.out] at hx
            rw [E2.out] at hy
            injection hx with hx
            injection hy with hy
            rw [← hx, ← hy, LV.out]; exact hvd
          go_wp2
          refine wp_region_quiet_below (by kernel_rfl) (by kernel_rfl) ?_
          repeat (quiet_step ((go_at_fn f; exact CB.out _)))
          refine wpQuiet_nil ?_
          intro w3 hw3
          have hbb := behind_all hw3
          have O3 := hid (hD.out.below hbb)
          have W3 := hid (hW.out.call hbb (Nat.le_trans HC.out.room W0.out.size))
          clear hbb hw3 k1 k2 hD v8
          go_wp2
          exact ⟨⟨lo, hi, s, h, rfl, rfl, ⟨q1, q2, q3, q4, q5, q6, q7⟩, h1, by omega, by omega, hI, hJ2, O3, W3⟩, by simp [intOf]; omega⟩
        · have hvd : decide (v < 0) = false := decide_eq_false hvz
          have hI2 : Hid (h + 1 = lo ∨ ∀ u v, X[nn - (h + 1)]? = some u → X[h + 1 - 1]? = some v → ltC cf u v = false) := .inr fun x y hx hy => by
            rw [show nn - (h + 1) = pc by omega, E1.out] at hx
            rw [Nat.add_sub_cancel, E2.out] at hy
            injection hx with hx
            injection hy with hy
            rw [← hx, ← hy, LV.out]; exact hvd
          go_wp2
          refine wp_region_quiet_below (by kernel_rfl) (by kernel_rfl) ?_
          repeat (quiet_step ((go_at_fn f; exact CB.out _)))
          refine wpQuiet_nil ?_
          intro w3 hw3
          have hbb := behind_all hw3
          have O3 := hid (hD.out.below hbb)
          have W3 := hid (hW.out.call hbb (Nat.le_trans HC.out.room W0.out.size))
          clear hbb hw3 k1 k2 hD v8
          go_wp2
          exact ⟨⟨lo, hi, h + 1, r, by go_num, rfl, ⟨q1, q2, q3, q4, q5, q6, q7⟩, by omega, by omega, h3, hI2, hJ, O3, W3⟩, by simp [intOf]; omega⟩
      · have hi' : ¬ (s : Int) < (r : Int) := by omega
        obtain rfl : s = r := by omega
        obtain ⟨en, hen⟩ : ∃ en, en = nn - s := ⟨_, rfl⟩
        have hen1 : en + s ≤ nn ∧ nn ≤ en + s := by omega
        have hsp := sym_split (lt := ltC cf) (R := R) (A := A) (L := L) (M := M) (C := C) (a := a) (m := m) (b := b) (mid := mid) (s := s) tr.out ha.out hm.out hb.out hL.out hM.out hX.out (by omega) (by omega) (by omega) (by omega)
          (by rw [← XE.out, show mid + m = nn by omega]; rcases hI.out with h | h
              · rcases q6 with h' | h'
                · exact .inl (by omega)
                · exact .inr (.inl (by omega))
              · exact .inr (.inr h))
          (by rw [← XE.out, show mid + m = nn by omega]; rcases hJ.out with h | h
              · rcases q7 with h' | h'
                · exact .inl (by omega)
                · exact .inr (.inl (by omega))
              · exact .inr (.inr h))
        obtain ⟨L1, hL1⟩ : ∃ x, x = L.take (s - a) := ⟨_, rfl⟩
        obtain ⟨L2, hL2⟩ : ∃ x, x = L.drop (s - a) := ⟨_, rfl⟩
        obtain ⟨M1, hM1⟩ : ∃ x, x = M.take (mid - s) := ⟨_, rfl⟩
        obtain ⟨M2, hM2⟩ : ∃ x, x = M.drop (mid - s) := ⟨_, rfl⟩
        rw [← hL1, ← hL2, ← hM1, ← hM2] at hsp
        have eL : L = L1 ++ L2 := by rw [hL1, hL2, List.take_append_drop]
        have eM : M = M1 ++ M2 := by rw [hM1, hM2, List.take_append_drop]
        have hma := hm.out
        have hmb := hb.out
        have l1 : L1.length = s - a := by rw [hL1, List.length_take]; omega
        have l2 : L2.length = m - s := by rw [hL2, List.length_drop]; omega
        have m1 : M1.length = mid - s := by rw [hM1, List.length_take]; omega
        have m2 : M2.length = b - en := by rw [hM2, List.length_drop]; omega
        have LL1 := hid l1
        have LM1 := hid m1
        have hDX : Dat wr g ex (A ++ (L1 ++ (L2 ++ (M1 ++ (M2 ++ C))))) := by have h := hD.out; rw [XE.out, eL, eM] at h; simpa only [List.append_assoc] using h
        have hLp : L1.Pairwise R ∧ L2.Pairwise R := by have h := hL.out; rw [eL, List.pairwise_append] at h; exact ⟨h.1, h.2.1⟩
        have hMp : M1.Pairwise R ∧ M2.Pairwise R := by have h := hM.out; rw [eM, List.pairwise_append] at h; exact ⟨h.1, h.2.1⟩
        have HE' := HE.out
        have C1_ : s < m ∧ m < en → Calls Try.prog 166 #[.slice (some ⟨g, 0, none⟩) N c, .int .i64 s, .int .i64 m, .int .i64 en, .func (.func f) #[] cb] wr (RetD g B ex wr ((A ++ L1) ++ (M1 ++ (L2 ++ (M2 ++ C))))) := fun ⟨h4, h5⟩ =>
          rotate_any g B c N s m en ex (A ++ L1) L2 M1 (M2 ++ C) _ wr (by show _ = _; rw [List.length_append]; have := ha.out; omega) (by show _ = _; omega) (by show _ = _; omega) (by omega) hN2 (by omega) (by omega) (by rw [List.append_assoc]; exact hDX)
        have N1 : Hid (¬ (s < m ∧ m < en) → Hid (Dat wr g ex (A ++ (L1 ++ (M1 ++ (L2 ++ (M2 ++ C))))))) := fun h4 => by
          show Dat _ _ _ _
          have h5 : L2 = [] ∨ M1 = [] := by
            rcases Nat.lt_or_ge s m with h6 | h6
            · exact .inr (List.length_eq_zero_iff.1 (by omega))
            · exact .inl (List.length_eq_zero_iff.1 (by omega))
          rcases h5 with h5 | h5 <;> (subst h5; simpa using hDX)
        have N2 : Hid (¬ (a < s ∧ s < mid) → Mg R (L1 ++ M1) (L1 ++ M1)) := fun h4 => mg_either hLp.1 hMp.1 (by
            rcases Nat.lt_or_ge a s with h6 | h6
            · exact .inr (List.length_eq_zero_iff.1 (by omega))
            · exact .inl (List.length_eq_zero_iff.1 (by omega)))
        have N3 : Hid (¬ (mid < en ∧ en < b) → Mg R (L2 ++ M2) (L2 ++ M2)) := fun h4 => mg_either hLp.2 hMp.2 (by
            rcases Nat.lt_or_ge mid en with h6 | h6
            · exact .inr (List.length_eq_zero_iff.1 (by omega))
            · exact .inl (List.length_eq_zero_iff.1 (by omega)))
        have I1 : Hid (a < s ∧ s < mid → ∀ w', Hid (Dat w' g ex (A ++ (L1 ++ (M1 ++ (L2 ++ (M2 ++ C)))))) → Hid (Bes g B w w') → Calls Try.prog 138 #[.slice (some ⟨g, 0, none⟩) N c, .int .i64 a, .int .i64 s, .int .i64 mid, .func (.func f) #[] cb] w' (RetM g B ex w' A (L2 ++ (M2 ++ C)) R (L1 ++ M1))) := fun h4 w' hd hw' =>
          IH.out a s mid A L1 M1 (L2 ++ (M2 ++ C)) w' (by omega) (W0.out.trans hw'.out) (fun y hy => HE' y (by rw [eL, eM]; simp only [List.mem_append] at hy ⊢; rcases hy with h | h <;> simp [h])) ha (by show _ = _; omega) (by show _ = _; omega) (by omega) (by omega) (by omega) hLp.1 hMp.1 (hX.out.sub (fun y hy => by rw [eL]; simp [hy]) (fun y hy => by rw [eM]; simp [hy])) hd.out
        have I2 : Hid (mid < en ∧ en < b → ∀ P : List Int, Hid (P.length = mid) → ∀ w', Hid (Dat w' g ex (P ++ (L2 ++ (M2 ++ C)))) → Hid (Bes g B w w') → Calls Try.prog 138 #[.slice (some ⟨g, 0, none⟩) N c, .int .i64 mid, .int .i64 en, .int .i64 b, .func (.func f) #[] cb] w' (RetM g B ex w' P C R (L2 ++ M2))) := fun h4 P hP w' hd hw' =>
          IH.out mid en b P L2 M2 C w' (by omega) (W0.out.trans hw'.out) (fun y hy => HE' y (by rw [eL, eM]; simp only [List.mem_append] at hy ⊢; rcases hy with h | h <;> simp [h])) hP (by show _ = _; omega) (by show _ = _; omega) (by omega) (by omega) (by omega) hLp.2 hMp.2 (hX.out.sub (fun y hy => by rw [eL]; simp [hy]) (fun y hy => by rw [eM]; simp [hy])) hd.out
        have FIN : Hid (∀ X1 X2, Mg R (L1 ++ M1) X1 → Mg R (L2 ++ M2) X2 → Mg R (L ++ M) (X1 ++ X2)) := fun X1 X2 h4 h5 => by
          rw [eL, eM]; exact mg_join h4 h5 hsp
        have v9 : IntKind.i64.wrap ((nn : Int) - (s : Int)) = (en : Int) := by rw [IntKind.wrap_i64]; omega
        clear IH hI hJ hD hDX hsp hL1 hL2 hM1 hM2 eL eM hma hmb l1 l2 m1 m2 hLp hMp HE' hen q6 q7
        by_cases g1 : s < m ∧ m < en
        · by_cases g2 : a < s ∧ s < mid
          · by_cases g3 : mid < en ∧ en < b
            · obtain ⟨g1a, g1b⟩ := g1
              have g1c : (s : Int) < (m : Int) := by omega
              have g1d : (m : Int) < (en : Int) := by omega
              obtain ⟨g2a, g2b⟩ := g2
              have g2c : (a : Int) < (s : Int) := by omega
              have g2d : (s : Int) < (mid : Int) := by omega
              obtain ⟨g3a, g3b⟩ := g3
              have g3c : (mid : Int) < (en : Int) := by omega
              have g3d : (en : Int) < (b : Int) := by omega
              first
              | (exfalso; omega)
              | (have C1 := hid (C1_ ⟨g1a, g1b⟩)
                 go_wp2_with fail
                 refine C1.out.mono ?_
                 rintro e w1 ⟨rfl, hD1, hW1⟩
                 have D1 : Hid (Dat w1 g ex (A ++ (L1 ++ (M1 ++ (L2 ++ (M2 ++ C)))))) := by show Dat _ _ _ _; rw [← List.append_assoc A]; exact hD1
                 have W1 := hid (hW.out.trans hW1)
                 clear hD1 hW1 C1
                 have C2 := hid (I1.out ⟨g2a, g2b⟩ w1 D1 W1)
                 go_wp2_with fail
                 refine C2.out.mono ?_
                 rintro e w2 ⟨X1, rfl, hm1, hD2, hW2⟩
                 have D2 : Hid (Dat w2 g ex ((A ++ X1) ++ (L2 ++ (M2 ++ C)))) := by show Dat _ _ _ _; rw [List.append_assoc]; exact hD2
                 have Mg1 := hid hm1
                 have W2 := hid (W1.out.trans hW2)
                 clear hD2 hW2 hm1 C2
                 have hP : Hid ((A ++ X1).length = mid) := by show _ = _; rw [List.length_append, Mg1.out.1.length_eq, List.length_append]; have := ha.out; have := LL1.out; have := LM1.out; omega
                 have C3 := hid (I2.out ⟨g3a, g3b⟩ (A ++ X1) hP w2 D2 W2)
                 go_wp2_with fail
                 refine C3.out.mono ?_
                 rintro e w3 ⟨X2, rfl, hm2, hD3, hW3⟩
                 have D3 := hid hD3
                 have Mg2 := hid hm2
                 have W3 := hid (W2.out.trans hW3)
                 clear hD3 hW3 hm2 C3
                 have hfin := hid (FIN.out X1 X2 Mg1.out Mg2.out)
                 have hdat : Hid (Dat w3 g ex (A ++ ((X1 ++ X2) ++ C))) := by show Dat _ _ _ _; have h := D3.out; simpa only [List.append_assoc] using h
                 go_wp2
                 go_end0
                 exact ⟨X1 ++ X2, rfl, hfin.out, hdat.out, W3.out⟩)
            · obtain ⟨g1a, g1b⟩ := g1
              have g1c : (s : Int) < (m : Int) := by omega
              have g1d : (m : Int) < (en : Int) := by omega
              obtain ⟨g2a, g2b⟩ := g2
              have g2c : (a : Int) < (s : Int) := by omega
              have g2d : (s : Int) < (mid : Int) := by omega
              by_cases g3h : mid < en
              · have g3c : (mid : Int) < (en : Int) := by omega
                have g3d : ¬ (en : Int) < (b : Int) := by omega
                first
                | (exfalso; omega)
                | (have C1 := hid (C1_ ⟨g1a, g1b⟩)
                   go_wp2_with fail
                   refine C1.out.mono ?_
                   rintro e w1 ⟨rfl, hD1, hW1⟩
                   have D1 : Hid (Dat w1 g ex (A ++ (L1 ++ (M1 ++ (L2 ++ (M2 ++ C)))))) := by show Dat _ _ _ _; rw [← List.append_assoc A]; exact hD1
                   have W1 := hid (hW.out.trans hW1)
                   clear hD1 hW1 C1
                   have C2 := hid (I1.out ⟨g2a, g2b⟩ w1 D1 W1)
                   go_wp2_with fail
                   refine C2.out.mono ?_
                   rintro e w2 ⟨X1, rfl, hm1, hD2, hW2⟩
                   have D2 : Hid (Dat w2 g ex ((A ++ X1) ++ (L2 ++ (M2 ++ C)))) := by show Dat _ _ _ _; rw [List.append_assoc]; exact hD2
                   have Mg1 := hid hm1
                   have W2 := hid (W1.out.trans hW2)
                   clear hD2 hW2 hm1 C2
                   have hP : Hid ((A ++ X1).length = mid) := by show _ = _; rw [List.length_append, Mg1.out.1.length_eq, List.length_append]; have := ha.out; have := LL1.out; have := LM1.out; omega
                   obtain ⟨X2, hX2⟩ : ∃ X2, X2 = L2 ++ M2 := ⟨_, rfl⟩
                   have Mg2 : Hid (Mg R (L2 ++ M2) X2) := by rw [hX2]; exact N3.out g3
                   have D3 : Hid (Dat w2 g ex ((A ++ X1) ++ (X2 ++ C))) := by show Dat _ _ _ _; rw [hX2]; have h := D2.out; simpa only [List.append_assoc] using h
                   have W3 := W2
                   clear hX2
                   have hfin := hid (FIN.out X1 X2 Mg1.out Mg2.out)
                   have hdat : Hid (Dat w2 g ex (A ++ ((X1 ++ X2) ++ C))) := by show Dat _ _ _ _; have h := D3.out; simpa only [List.append_assoc] using h
                   go_wp2
                   go_end0
                   exact ⟨X1 ++ X2, rfl, hfin.out, hdat.out, W3.out⟩)
              · have g3c : ¬ (mid : Int) < (en : Int) := by omega
                first
                | (exfalso; omega)
                | (have C1 := hid (C1_ ⟨g1a, g1b⟩)
                   go_wp2_with fail
                   refine C1.out.mono ?_
                   rintro e w1 ⟨rfl, hD1, hW1⟩
                   have D1 : Hid (Dat w1 g ex (A ++ (L1 ++ (M1 ++ (L2 ++ (M2 ++ C)))))) := by show Dat _ _ _ _; rw [← List.append_assoc A]; exact hD1
                   have W1 := hid (hW.out.trans hW1)
                   clear hD1 hW1 C1
                   have C2 := hid (I1.out ⟨g2a, g2b⟩ w1 D1 W1)
                   go_wp2_with fail
                   refine C2.out.mono ?_
                   rintro e w2 ⟨X1, rfl, hm1, hD2, hW2⟩
                   have D2 : Hid (Dat w2 g ex ((A ++ X1) ++ (L2 ++ (M2 ++ C)))) := by show Dat _ _ _ _; rw [List.append_assoc]; exact hD2
                   have Mg1 := hid hm1
                   have W2 := hid (W1.out.trans hW2)
                   clear hD2 hW2 hm1 C2
                   have hP : Hid ((A ++ X1).length = mid) := by show _ = _; rw [List.length_append, Mg1.out.1.length_eq, List.length_append]; have := ha.out; have := LL1.out; have := LM1.out; omega
                   obtain ⟨X2, hX2⟩ : ∃ X2, X2 = L2 ++ M2 := ⟨_, rfl⟩
                   have Mg2 : Hid (Mg R (L2 ++ M2) X2) := by rw [hX2]; exact N3.out g3
                   have D3 : Hid (Dat w2 g ex ((A ++ X1) ++ (X2 ++ C))) := by show Dat _ _ _ _; rw [hX2]; have h := D2.out; simpa only [List.append_assoc] using h
                   have W3 := W2
                   clear hX2
                   have hfin := hid (FIN.out X1 X2 Mg1.out Mg2.out)
                   have hdat : Hid (Dat w2 g ex (A ++ ((X1 ++ X2) ++ C))) := by show Dat _ _ _ _; have h := D3.out; simpa only [List.append_assoc] using h
                   go_wp2
                   go_end0
                   exact ⟨X1 ++ X2, rfl, hfin.out, hdat.out, W3.out⟩)
          · by_cases g3 : mid < en ∧ en < b
            · obtain ⟨g1a, g1b⟩ := g1
              have g1c : (s : Int) < (m : Int) := by omega
              have g1d : (m : Int) < (en : Int) := by omega
              obtain ⟨g3a, g3b⟩ := g3
              have g3c : (mid : Int) < (en : Int) := by omega
              have g3d : (en : Int) < (b : Int) := by omega
              by_cases g2h : a < s
              · have g2c : (a : Int) < (s : Int) := by omega
                have g2d : ¬ (s : Int) < (mid : Int) := by omega
                first
                | (exfalso; omega)
                | (have C1 := hid (C1_ ⟨g1a, g1b⟩)
                   go_wp2_with fail
                   refine C1.out.mono ?_
                   rintro e w1 ⟨rfl, hD1, hW1⟩
                   have D1 : Hid (Dat w1 g ex (A ++ (L1 ++ (M1 ++ (L2 ++ (M2 ++ C)))))) := by show Dat _ _ _ _; rw [← List.append_assoc A]; exact hD1
                   have W1 := hid (hW.out.trans hW1)
                   clear hD1 hW1 C1
                   obtain ⟨X1, hX1⟩ : ∃ X1, X1 = L1 ++ M1 := ⟨_, rfl⟩
                   have Mg1 : Hid (Mg R (L1 ++ M1) X1) := by rw [hX1]; exact N2.out g2
                   have D2 : Hid (Dat w1 g ex ((A ++ X1) ++ (L2 ++ (M2 ++ C)))) := by show Dat _ _ _ _; rw [hX1]; have h := D1.out; simpa only [List.append_assoc] using h
                   have W2 := W1
                   clear hX1
                   have hP : Hid ((A ++ X1).length = mid) := by show _ = _; rw [List.length_append, Mg1.out.1.length_eq, List.length_append]; have := ha.out; have := LL1.out; have := LM1.out; omega
                   have C3 := hid (I2.out ⟨g3a, g3b⟩ (A ++ X1) hP w1 D2 W2)
                   go_wp2_with fail
                   refine C3.out.mono ?_
                   rintro e w3 ⟨X2, rfl, hm2, hD3, hW3⟩
                   have D3 := hid hD3
                   have Mg2 := hid hm2
                   have W3 := hid (W2.out.trans hW3)
                   clear hD3 hW3 hm2 C3
                   have hfin := hid (FIN.out X1 X2 Mg1.out Mg2.out)
                   have hdat : Hid (Dat w3 g ex (A ++ ((X1 ++ X2) ++ C))) := by show Dat _ _ _ _; have h := D3.out; simpa only [List.append_assoc] using h
                   go_wp2
                   go_end0
                   exact ⟨X1 ++ X2, rfl, hfin.out, hdat.out, W3.out⟩)
              · have g2c : ¬ (a : Int) < (s : Int) := by omega
                first
                | (exfalso; omega)
                | (have C1 := hid (C1_ ⟨g1a, g1b⟩)
                   go_wp2_with fail
                   refine C1.out.mono ?_
                   rintro e w1 ⟨rfl, hD1, hW1⟩
                   have D1 : Hid (Dat w1 g ex (A ++ (L1 ++ (M1 ++ (L2 ++ (M2 ++ C)))))) := by show Dat _ _ _ _; rw [← List.append_assoc A]; exact hD1
                   have W1 := hid (hW.out.trans hW1)
                   clear hD1 hW1 C1
                   obtain ⟨X1, hX1⟩ : ∃ X1, X1 = L1 ++ M1 := ⟨_, rfl⟩
                   have Mg1 : Hid (Mg R (L1 ++ M1) X1) := by rw [hX1]; exact N2.out g2
                   have D2 : Hid (Dat w1 g ex ((A ++ X1) ++ (L2 ++ (M2 ++ C)))) := by show Dat _ _ _ _; rw [hX1]; have h := D1.out; simpa only [List.append_assoc] using h
                   have W2 := W1
                   clear hX1
                   have hP : Hid ((A ++ X1).length = mid) := by show _ = _; rw [List.length_append, Mg1.out.1.length_eq, List.length_append]; have := ha.out; have := LL1.out; have := LM1.out; omega
                   have C3 := hid (I2.out ⟨g3a, g3b⟩ (A ++ X1) hP w1 D2 W2)
                   go_wp2_with fail
                   refine C3.out.mono ?_
                   rintro e w3 ⟨X2, rfl, hm2, hD3, hW3⟩
                   have D3 := hid hD3
                   have Mg2 := hid hm2
                   have W3 := hid (W2.out.trans hW3)
                   clear hD3 hW3 hm2 C3
                   have hfin := hid (FIN.out X1 X2 Mg1.out Mg2.out)
                   have hdat : Hid (Dat w3 g ex (A ++ ((X1 ++ X2) ++ C))) := by show Dat _ _ _ _; have h := D3.out; simpa only [List.append_assoc] using h
                   go_wp2
                   go_end0
                   exact ⟨X1 ++ X2, rfl, hfin.out, hdat.out, W3.out⟩)
            · obtain ⟨g1a, g1b⟩ := g1
              have g1c : (s : Int) < (m : Int) := by omega
              have g1d : (m : Int) < (en : Int) := by omega
              by_cases g2h : a < s
              · have g2c : (a : Int) < (s : Int) := by omega
                have g2d : ¬ (s : Int) < (mid : Int) := by omega
                by_cases g3h : mid < en
                · have g3c : (mid : Int) < (en : Int) := by omega
                  have g3d : ¬ (en : Int) < (b : Int) := by omega
                  first
                  | (exfalso; omega)
                  | (have C1 := hid (C1_ ⟨g1a, g1b⟩)
                     go_wp2_with fail
                     refine C1.out.mono ?_
                     rintro e w1 ⟨rfl, hD1, hW1⟩
                     have D1 : Hid (Dat w1 g ex (A ++ (L1 ++ (M1 ++ (L2 ++ (M2 ++ C)))))) := by show Dat _ _ _ _; rw [← List.append_assoc A]; exact hD1
                     have W1 := hid (hW.out.trans hW1)
                     clear hD1 hW1 C1
                     obtain ⟨X1, hX1⟩ : ∃ X1, X1 = L1 ++ M1 := ⟨_, rfl⟩
                     have Mg1 : Hid (Mg R (L1 ++ M1) X1) := by rw [hX1]; exact N2.out g2
                     have D2 : Hid (Dat w1 g ex ((A ++ X1) ++ (L2 ++ (M2 ++ C)))) := by show Dat _ _ _ _; rw [hX1]; have h := D1.out; simpa only [List.append_assoc] using h
                     have W2 := W1
                     clear hX1
                     have hP : Hid ((A ++ X1).length = mid) := by show _ = _; rw [List.length_append, Mg1.out.1.length_eq, List.length_append]; have := ha.out; have := LL1.out; have := LM1.out; omega
                     obtain ⟨X2, hX2⟩ : ∃ X2, X2 = L2 ++ M2 := ⟨_, rfl⟩
                     have Mg2 : Hid (Mg R (L2 ++ M2) X2) := by rw [hX2]; exact N3.out g3
                     have D3 : Hid (Dat w1 g ex ((A ++ X1) ++ (X2 ++ C))) := by show Dat _ _ _ _; rw [hX2]; have h := D2.out; simpa only [List.append_assoc] using h
                     have W3 := W2
                     clear hX2
                     have hfin := hid (FIN.out X1 X2 Mg1.out Mg2.out)
                     have hdat : Hid (Dat w1 g ex (A ++ ((X1 ++ X2) ++ C))) := by show Dat _ _ _ _; have h := D3.out; simpa only [List.append_assoc] using h
                     go_wp2
                     go_end0
                     exact ⟨X1 ++ X2, rfl, hfin.out, hdat.out, W3.out⟩)
                · have g3c : ¬ (mid : Int) < (en : Int) := by omega
                  first
                  | (exfalso; omega)
                  | (have C1 := hid (C1_ ⟨g1a, g1b⟩)
                     go_wp2_with fail
                     refine C1.out.mono ?_
                     rintro e w1 ⟨rfl, hD1, hW1⟩
                     have D1 : Hid (Dat w1 g ex (A ++ (L1 ++ (M1 ++ (L2 ++ (M2 ++ C)))))) := by show Dat _ _ _ _; rw [← List.append_assoc A]; exact hD1
                     have W1 := hid (hW.out.trans hW1)
                     clear hD1 hW1 C1
                     obtain ⟨X1, hX1⟩ : ∃ X1, X1 = L1 ++ M1 := ⟨_, rfl⟩
                     have Mg1 : Hid (Mg R (L1 ++ M1) X1) := by rw [hX1]; exact N2.out g2
                     have D2 : Hid (Dat w1 g ex ((A ++ X1) ++ (L2 ++ (M2 ++ C)))) := by show Dat _ _ _ _; rw [hX1]; have h := D1.out; simpa only [List.append_assoc] using h
                     have W2 := W1
                     clear hX1
                     have hP : Hid ((A ++ X1).length = mid) := by show _ = _; rw [List.length_append, Mg1.out.1.length_eq, List.length_append]; have := ha.out; have := LL1.out; have := LM1.out; omega
                     obtain ⟨X2, hX2⟩ : ∃ X2, X2 = L2 ++ M2 := ⟨_, rfl⟩
                     have Mg2 : Hid (Mg R (L2 ++ M2) X2) := by rw [hX2]; exact N3.out g3
                     have D3 : Hid (Dat w1 g ex ((A ++ X1) ++ (X2 ++ C))) := by show Dat _ _ _ _; rw [hX2]; have h := D2.out; simpa only [List.append_assoc] using h
                     have W3 := W2
                     clear hX2
                     have hfin := hid (FIN.out X1 X2 Mg1.out Mg2.out)
                     have hdat : Hid (Dat w1 g ex (A ++ ((X1 ++ X2) ++ C))) := by show Dat _ _ _ _; have h := D3.out; simpa only [List.append_assoc] using h
                     go_wp2
                     go_end0
                     exact ⟨X1 ++ X2, rfl, hfin.out, hdat.out, W3.out⟩)
              · have g2c : ¬ (a : Int) < (s : Int) := by omega
                by_cases g3h : mid < en
                · have g3c : (mid : Int) < (en : Int) := by omega
                  have g3d : ¬ (en : Int) < (b : Int) := by omega
                  first
                  | (exfalso; omega)
                  | (have C1 := hid (C1_ ⟨g1a, g1b⟩)
                     go_wp2_with fail
                     refine C1.out.mono ?_
                     rintro e w1 ⟨rfl, hD1, hW1⟩
                     have D1 : Hid (Dat w1 g ex (A ++ (L1 ++ (M1 ++ (L2 ++ (M2 ++ C)))))) := by show Dat _ _ _ _; rw [← List.append_assoc A]; exact hD1
                     have W1 := hid (hW.out.trans hW1)
                     clear hD1 hW1 C1
                     obtain ⟨X1, hX1⟩ : ∃ X1, X1 = L1 ++ M1 := ⟨_, rfl⟩
                     have Mg1 : Hid (Mg R (L1 ++ M1) X1) := by rw [hX1]; exact N2.out g2
                     have D2 : Hid (Dat w1 g ex ((A ++ X1) ++ (L2 ++ (M2 ++ C)))) := by show Dat _ _ _ _; rw [hX1]; have h := D1.out; simpa only [List.append_assoc] using h
                     have W2 := W1
                     clear hX1
                     have hP : Hid ((A ++ X1).length = mid) := by show _ = _; rw [List.length_append, Mg1.out.1.length_eq, List.length_append]; have := ha.out; have := LL1.out; have := LM1.out; omega
                     obtain ⟨X2, hX2⟩ : ∃ X2, X2 = L2 ++ M2 := ⟨_, rfl⟩
                     have Mg2 : Hid (Mg R (L2 ++ M2) X2) := by rw [hX2]; exact N3.out g3
                     have D3 : Hid (Dat w1 g ex ((A ++ X1) ++ (X2 ++ C))) := by show Dat _ _ _ _; rw [hX2]; have h := D2.out; simpa only [List.append_assoc] using h
                     have W3 := W2
                     clear hX2
                     have hfin := hid (FIN.out X1 X2 Mg1.out Mg2.out)
                     have hdat : Hid (Dat w1 g ex (A ++ ((X1 ++ X2) ++ C))) := by show Dat _ _ _ _; have h := D3.out; simpa only [List.append_assoc] using h
                     go_wp2
                     go_end0
                     exact ⟨X1 ++ X2, rfl, hfin.out, hdat.out, W3.out⟩)
                · have g3c : ¬ (mid : Int) < (en : Int) := by omega
                  first
                  | (exfalso; omega)
                  | (have C1 := hid (C1_ ⟨g1a, g1b⟩)
                     go_wp2_with fail
                     refine C1.out.mono ?_
                     rintro e w1 ⟨rfl, hD1, hW1⟩
                     have D1 : Hid (Dat w1 g ex (A ++ (L1 ++ (M1 ++ (L2 ++ (M2 ++ C)))))) := by show Dat _ _ _ _; rw [← List.append_assoc A]; exact hD1
                     have W1 := hid (hW.out.trans hW1)
                     clear hD1 hW1 C1
                     obtain ⟨X1, hX1⟩ : ∃ X1, X1 = L1 ++ M1 := ⟨_, rfl⟩
                     have Mg1 : Hid (Mg R (L1 ++ M1) X1) := by rw [hX1]; exact N2.out g2
                     have D2 : Hid (Dat w1 g ex ((A ++ X1) ++ (L2 ++ (M2 ++ C)))) := by show Dat _ _ _ _; rw [hX1]; have h := D1.out; simpa only [List.append_assoc] using h
                     have W2 := W1
                     clear hX1
                     have hP : Hid ((A ++ X1).length = mid) := by show _ = _; rw [List.length_append, Mg1.out.1.length_eq, List.length_append]; have := ha.out; have := LL1.out; have := LM1.out; omega
                     obtain ⟨X2, hX2⟩ : ∃ X2, X2 = L2 ++ M2 := ⟨_, rfl⟩
                     have Mg2 : Hid (Mg R (L2 ++ M2) X2) := by rw [hX2]; exact N3.out g3
                     have D3 : Hid (Dat w1 g ex ((A ++ X1) ++ (X2 ++ C))) := by show Dat _ _ _ _; rw [hX2]; have h := D2.out; simpa only [List.append_assoc] using h
                     have W3 := W2
                     clear hX2
                     have hfin := hid (FIN.out X1 X2 Mg1.out Mg2.out)
                     have hdat : Hid (Dat w1 g ex (A ++ ((X1 ++ X2) ++ C))) := by show Dat _ _ _ _; have h := D3.out; simpa only [List.append_assoc] using h
                     go_wp2
                     go_end0
                     exact ⟨X1 ++ X2, rfl, hfin.out, hdat.out, W3.out⟩)
        · by_cases g2 : a < s ∧ s < mid
          · by_cases g3 : mid < en ∧ en < b
            · obtain ⟨g2a, g2b⟩ := g2
              have g2c : (a : Int) < (s : Int) := by omega
              have g2d : (s : Int) < (mid : Int) := by omega
              obtain ⟨g3a, g3b⟩ := g3
              have g3c : (mid : Int) < (en : Int) := by omega
              have g3d : (en : Int) < (b : Int) := by omega
              by_cases g1h : s < m
              · have g1c : (s : Int) < (m : Int) := by omega
                have g1d : ¬ (m : Int) < (en : Int) := by omega
                first
                | (exfalso; omega)
                | (have D1 : Hid (Dat wr g ex (A ++ (L1 ++ (M1 ++ (L2 ++ (M2 ++ C)))))) := N1.out g1
                   have W1 := hW
                   have C2 := hid (I1.out ⟨g2a, g2b⟩ wr D1 W1)
                   go_wp2_with fail
                   refine C2.out.mono ?_
                   rintro e w2 ⟨X1, rfl, hm1, hD2, hW2⟩
                   have D2 : Hid (Dat w2 g ex ((A ++ X1) ++ (L2 ++ (M2 ++ C)))) := by show Dat _ _ _ _; rw [List.append_assoc]; exact hD2
                   have Mg1 := hid hm1
                   have W2 := hid (W1.out.trans hW2)
                   clear hD2 hW2 hm1 C2
                   have hP : Hid ((A ++ X1).length = mid) := by show _ = _; rw [List.length_append, Mg1.out.1.length_eq, List.length_append]; have := ha.out; have := LL1.out; have := LM1.out; omega
                   have C3 := hid (I2.out ⟨g3a, g3b⟩ (A ++ X1) hP w2 D2 W2)
                   go_wp2_with fail
                   refine C3.out.mono ?_
                   rintro e w3 ⟨X2, rfl, hm2, hD3, hW3⟩
                   have D3 := hid hD3
                   have Mg2 := hid hm2
                   have W3 := hid (W2.out.trans hW3)
                   clear hD3 hW3 hm2 C3
                   have hfin := hid (FIN.out X1 X2 Mg1.out Mg2.out)
                   have hdat : Hid (Dat w3 g ex (A ++ ((X1 ++ X2) ++ C))) := by show Dat _ _ _ _; have h := D3.out; simpa only [List.append_assoc] using h
                   go_wp2
                   go_end0
                   exact ⟨X1 ++ X2, rfl, hfin.out, hdat.out, W3.out⟩)
              · have g1c : ¬ (s : Int) < (m : Int) := by omega
                first
                | (exfalso; omega)
                | (have D1 : Hid (Dat wr g ex (A ++ (L1 ++ (M1 ++ (L2 ++ (M2 ++ C)))))) := N1.out g1
                   have W1 := hW
                   have C2 := hid (I1.out ⟨g2a, g2b⟩ wr D1 W1)
                   go_wp2_with fail
                   refine C2.out.mono ?_
                   rintro e w2 ⟨X1, rfl, hm1, hD2, hW2⟩
                   have D2 : Hid (Dat w2 g ex ((A ++ X1) ++ (L2 ++ (M2 ++ C)))) := by show Dat _ _ _ _; rw [List.append_assoc]; exact hD2
                   have Mg1 := hid hm1
                   have W2 := hid (W1.out.trans hW2)
                   clear hD2 hW2 hm1 C2
                   have hP : Hid ((A ++ X1).length = mid) := by show _ = _; rw [List.length_append, Mg1.out.1.length_eq, List.length_append]; have := ha.out; have := LL1.out; have := LM1.out; omega
                   have C3 := hid (I2.out ⟨g3a, g3b⟩ (A ++ X1) hP w2 D2 W2)
                   go_wp2_with fail
                   refine C3.out.mono ?_
                   rintro e w3 ⟨X2, rfl, hm2, hD3, hW3⟩
                   have D3 := hid hD3
                   have Mg2 := hid hm2
                   have W3 := hid (W2.out.trans hW3)
                   clear hD3 hW3 hm2 C3
                   have hfin := hid (FIN.out X1 X2 Mg1.out Mg2.out)
                   have hdat : Hid (Dat w3 g ex (A ++ ((X1 ++ X2) ++ C))) := by show Dat _ _ _ _; have h := D3.out; simpa only [List.append_assoc] using h
                   go_wp2
                   go_end0
                   exact ⟨X1 ++ X2, rfl, hfin.out, hdat.out, W3.out⟩)
            · obtain ⟨g2a, g2b⟩ := g2
              have g2c : (a : Int) < (s : Int) := by omega
              have g2d : (s : Int) < (mid : Int) := by omega
              by_cases g1h : s < m
              · have g1c : (s : Int) < (m : Int) := by omega
                have g1d : ¬ (m : Int) < (en : Int) := by omega
                by_cases g3h : mid < en
                · have g3c : (mid : Int) < (en : Int) := by omega
                  have g3d : ¬ (en : Int) < (b : Int) := by omega
                  first
                  | (exfalso; omega)
                  | (have D1 : Hid (Dat wr g ex (A ++ (L1 ++ (M1 ++ (L2 ++ (M2 ++ C)))))) := N1.out g1
                     have W1 := hW
                     have C2 := hid (I1.out ⟨g2a, g2b⟩ wr D1 W1)
                     go_wp2_with fail
                     refine C2.out.mono ?_
                     rintro e w2 ⟨X1, rfl, hm1, hD2, hW2⟩
                     have D2 : Hid (Dat w2 g ex ((A ++ X1) ++ (L2 ++ (M2 ++ C)))) := by show Dat _ _ _ _; rw [List.append_assoc]; exact hD2
                     have Mg1 := hid hm1
                     have W2 := hid (W1.out.trans hW2)
                     clear hD2 hW2 hm1 C2
                     have hP : Hid ((A ++ X1).length = mid) := by show _ = _; rw [List.length_append, Mg1.out.1.length_eq, List.length_append]; have := ha.out; have := LL1.out; have := LM1.out; omega
                     obtain ⟨X2, hX2⟩ : ∃ X2, X2 = L2 ++ M2 := ⟨_, rfl⟩
                     have Mg2 : Hid (Mg R (L2 ++ M2) X2) := by rw [hX2]; exact N3.out g3
                     have D3 : Hid (Dat w2 g ex ((A ++ X1) ++ (X2 ++ C))) := by show Dat _ _ _ _; rw [hX2]; have h := D2.out; simpa only [List.append_assoc] using h
                     have W3 := W2
                     clear hX2
                     have hfin := hid (FIN.out X1 X2 Mg1.out Mg2.out)
                     have hdat : Hid (Dat w2 g ex (A ++ ((X1 ++ X2) ++ C))) := by show Dat _ _ _ _; have h := D3.out; simpa only [List.append_assoc] using h
                     go_wp2
                     go_end0
                     exact ⟨X1 ++ X2, rfl, hfin.out, hdat.out, W3.out⟩)
                · have g3c : ¬ (mid : Int) < (en : Int) := by omega
                  first
                  | (exfalso; omega)
                  | (have D1 : Hid (Dat wr g ex (A ++ (L1 ++ (M1 ++ (L2 ++ (M2 ++ C)))))) := N1.out g1
                     have W1 := hW
                     have C2 := hid (I1.out ⟨g2a, g2b⟩ wr D1 W1)
                     go_wp2_with fail
                     refine C2.out.mono ?_
                     rintro e w2 ⟨X1, rfl, hm1, hD2, hW2⟩
                     have D2 : Hid (Dat w2 g ex ((A ++ X1) ++ (L2 ++ (M2 ++ C)))) := by show Dat _ _ _ _; rw [List.append_assoc]; exact hD2
                     have Mg1 := hid hm1
                     have W2 := hid (W1.out.trans hW2)
                     clear hD2 hW2 hm1 C2
                     have hP : Hid ((A ++ X1).length = mid) := by show _ = _; rw [List.length_append, Mg1.out.1.length_eq, List.length_append]; have := ha.out; have := LL1.out; have := LM1.out; omega
                     obtain ⟨X2, hX2⟩ : ∃ X2, X2 = L2 ++ M2 := ⟨_, rfl⟩
                     have Mg2 : Hid (Mg R (L2 ++ M2) X2) := by rw [hX2]; exact N3.out g3
                     have D3 : Hid (Dat w2 g ex ((A ++ X1) ++ (X2 ++ C))) := by show Dat _ _ _ _; rw [hX2]; have h := D2.out; simpa only [List.append_assoc] using h
                     have W3 := W2
                     clear hX2
                     have hfin := hid (FIN.out X1 X2 Mg1.out Mg2.out)
                     have hdat : Hid (Dat w2 g ex (A ++ ((X1 ++ X2) ++ C))) := by show Dat _ _ _ _; have h := D3.out; simpa only [List.append_assoc] using h
                     go_wp2
                     go_end0
                     exact ⟨X1 ++ X2, rfl, hfin.out, hdat.out, W3.out⟩)
              · have g1c : ¬ (s : Int) < (m : Int) := by omega
                by_cases g3h : mid < en
                · have g3c : (mid : Int) < (en : Int) := by omega
                  have g3d : ¬ (en : Int) < (b : Int) := by omega
                  first
                  | (exfalso; omega)
                  | (have D1 : Hid (Dat wr g ex (A ++ (L1 ++ (M1 ++ (L2 ++ (M2 ++ C)))))) := N1.out g1
                     have W1 := hW
                     have C2 := hid (I1.out ⟨g2a, g2b⟩ wr D1 W1)
                     go_wp2_with fail
                     refine C2.out.mono ?_
                     rintro e w2 ⟨X1, rfl, hm1, hD2, hW2⟩
                     have D2 : Hid (Dat w2 g ex ((A ++ X1) ++ (L2 ++ (M2 ++ C)))) := by show Dat _ _ _ _; rw [List.append_assoc]; exact hD2
                     have Mg1 := hid hm1
                     have W2 := hid (W1.out.trans hW2)
                     clear hD2 hW2 hm1 C2
                     have hP : Hid ((A ++ X1).length = mid) := by show _ = _; rw [List.length_append, Mg1.out.1.length_eq, List.length_append]; have := ha.out; have := LL1.out; have := LM1.out; omega
                     obtain ⟨X2, hX2⟩ : ∃ X2, X2 = L2 ++ M2 := ⟨_, rfl⟩
                     have Mg2 : Hid (Mg R (L2 ++ M2) X2) := by rw [hX2]; exact N3.out g3
                     have D3 : Hid (Dat w2 g ex ((A ++ X1) ++ (X2 ++ C))) := by show Dat _ _ _ _; rw [hX2]; have h := D2.out; simpa only [List.append_assoc] using h
                     have W3 := W2
                     clear hX2
                     have hfin := hid (FIN.out X1 X2 Mg1.out Mg2.out)
                     have hdat : Hid (Dat w2 g ex (A ++ ((X1 ++ X2) ++ C))) := by show Dat _ _ _ _; have h := D3.out; simpa only [List.append_assoc] using h
                     go_wp2
                     go_end0
                     exact ⟨X1 ++ X2, rfl, hfin.out, hdat.out, W3.out⟩)
                · have g3c : ¬ (mid : Int) < (en : Int) := by omega
                  first
                  | (exfalso; omega)
                  | (have D1 : Hid (Dat wr g ex (A ++ (L1 ++ (M1 ++ (L2 ++ (M2 ++ C)))))) := N1.out g1
                     have W1 := hW
                     have C2 := hid (I1.out ⟨g2a, g2b⟩ wr D1 W1)
                     go_wp2_with fail
                     refine C2.out.mono ?_
                     rintro e w2 ⟨X1, rfl, hm1, hD2, hW2⟩
                     have D2 : Hid (Dat w2 g ex ((A ++ X1) ++ (L2 ++ (M2 ++ C)))) := by show Dat _ _ _ _; rw [List.append_assoc]; exact hD2
                     have Mg1 := hid hm1
                     have W2 := hid (W1.out.trans hW2)
                     clear hD2 hW2 hm1 C2
                     have hP : Hid ((A ++ X1).length = mid) := by show _ = _; rw [List.length_append, Mg1.out.1.length_eq, List.length_append]; have := ha.out; have := LL1.out; have := LM1.out; omega
                     obtain ⟨X2, hX2⟩ : ∃ X2, X2 = L2 ++ M2 := ⟨_, rfl⟩
                     have Mg2 : Hid (Mg R (L2 ++ M2) X2) := by rw [hX2]; exact N3.out g3
                     have D3 : Hid (Dat w2 g ex ((A ++ X1) ++ (X2 ++ C))) := by show Dat _ _ _ _; rw [hX2]; have h := D2.out; simpa only [List.append_assoc] using h
                     have W3 := W2
                     clear hX2
                     have hfin := hid (FIN.out X1 X2 Mg1.out Mg2.out)
                     have hdat : Hid (Dat w2 g ex (A ++ ((X1 ++ X2) ++ C))) := by show Dat _ _ _ _; have h := D3.out; simpa only [List.append_assoc] using h
                     go_wp2
                     go_end0
                     exact ⟨X1 ++ X2, rfl, hfin.out, hdat.out, W3.out⟩)
          · by_cases g3 : mid < en ∧ en < b
            · obtain ⟨g3a, g3b⟩ := g3
              have g3c : (mid : Int) < (en : Int) := by omega
              have g3d : (en : Int) < (b : Int) := by omega
              by_cases g1h : s < m
              · have g1c : (s : Int) < (m : Int) := by omega
                have g1d : ¬ (m : Int) < (en : Int) := by omega
                by_cases g2h : a < s
                · have g2c : (a : Int) < (s : Int) := by omega
                  have g2d : ¬ (s : Int) < (mid : Int) := by omega
                  first
                  | (exfalso; omega)
                  | (have D1 : Hid (Dat wr g ex (A ++ (L1 ++ (M1 ++ (L2 ++ (M2 ++ C)))))) := N1.out g1
                     have W1 := hW
                     obtain ⟨X1, hX1⟩ : ∃ X1, X1 = L1 ++ M1 := ⟨_, rfl⟩
                     have Mg1 : Hid (Mg R (L1 ++ M1) X1) := by rw [hX1]; exact N2.out g2
                     have D2 : Hid (Dat wr g ex ((A ++ X1) ++ (L2 ++ (M2 ++ C)))) := by show Dat _ _ _ _; rw [hX1]; have h := D1.out; simpa only [List.append_assoc] using h
                     have W2 := W1
                     clear hX1
                     have hP : Hid ((A ++ X1).length = mid) := by show _ = _; rw [List.length_append, Mg1.out.1.length_eq, List.length_append]; have := ha.out; have := LL1.out; have := LM1.out; omega
                     have C3 := hid (I2.out ⟨g3a, g3b⟩ (A ++ X1) hP wr D2 W2)
                     go_wp2_with fail
                     refine C3.out.mono ?_
                     rintro e w3 ⟨X2, rfl, hm2, hD3, hW3⟩
                     have D3 := hid hD3
                     have Mg2 := hid hm2
                     have W3 := hid (W2.out.trans hW3)
                     clear hD3 hW3 hm2 C3
                     have hfin := hid (FIN.out X1 X2 Mg1.out Mg2.out)
                     have hdat : Hid (Dat w3 g ex (A ++ ((X1 ++ X2) ++ C))) := by show Dat _ _ _ _; have h := D3.out; simpa only [List.append_assoc] using h
                     go_wp2
                     go_end0
                     exact ⟨X1 ++ X2, rfl, hfin.out, hdat.out, W3.out⟩)
                · have g2c : ¬ (a : Int) < (s : Int) := by omega
                  first
                  | (exfalso; omega)
                  | (have D1 : Hid (Dat wr g ex (A ++ (L1 ++ (M1 ++ (L2 ++ (M2 ++ C)))))) := N1.out g1
                     have W1 := hW
                     obtain ⟨X1, hX1⟩ : ∃ X1, X1 = L1 ++ M1 := ⟨_, rfl⟩
                     have Mg1 : Hid (Mg R (L1 ++ M1) X1) := by rw [hX1]; exact N2.out g2
                     have D2 : Hid (Dat wr g ex ((A ++ X1) ++ (L2 ++ (M2 ++ C)))) := by show Dat _ _ _ _; rw [hX1]; have h := D1.out; simpa only [List.append_assoc] using h
                     have W2 := W1
                     clear hX1
                     have hP : Hid ((A ++ X1).length = mid) := by show _ = _; rw [List.length_append, Mg1.out.1.length_eq, List.length_append]; have := ha.out; have := LL1.out; have := LM1.out; omega
                     have C3 := hid (I2.out ⟨g3a, g3b⟩ (A ++ X1) hP wr D2 W2)
                     go_wp2_with fail
                     refine C3.out.mono ?_
                     rintro e w3 ⟨X2, rfl, hm2, hD3, hW3⟩
                     have D3 := hid hD3
                     have Mg2 := hid hm2
                     have W3 := hid (W2.out.trans hW3)
                     clear hD3 hW3 hm2 C3
                     have hfin := hid (FIN.out X1 X2 Mg1.out Mg2.out)
                     have hdat : Hid (Dat w3 g ex (A ++ ((X1 ++ X2) ++ C))) := by show Dat _ _ _ _; have h := D3.out; simpa only [List.append_assoc] using h
                     go_wp2
                     go_end0
                     exact ⟨X1 ++ X2, rfl, hfin.out, hdat.out, W3.out⟩)
              · have g1c : ¬ (s : Int) < (m : Int) := by omega
                by_cases g2h : a < s
                · have g2c : (a : Int) < (s : Int) := by omega
                  have g2d : ¬ (s : Int) < (mid : Int) := by omega
                  first
                  | (exfalso; omega)
                  | (have D1 : Hid (Dat wr g ex (A ++ (L1 ++ (M1 ++ (L2 ++ (M2 ++ C)))))) := N1.out g1
                     have W1 := hW
                     obtain ⟨X1, hX1⟩ : ∃ X1, X1 = L1 ++ M1 := ⟨_, rfl⟩
                     have Mg1 : Hid (Mg R (L1 ++ M1) X1) := by rw [hX1]; exact N2.out g2
                     have D2 : Hid (Dat wr g ex ((A ++ X1) ++ (L2 ++ (M2 ++ C)))) := by show Dat _ _ _ _; rw [hX1]; have h := D1.out; simpa only [List.append_assoc] using h
                     have W2 := W1
                     clear hX1
                     have hP : Hid ((A ++ X1).length = mid) := by show _ = _; rw [List.length_append, Mg1.out.1.length_eq, List.length_append]; have := ha.out; have := LL1.out; have := LM1.out; omega
                     have C3 := hid (I2.out ⟨g3a, g3b⟩ (A ++ X1) hP wr D2 W2)
                     go_wp2_with fail
                     refine C3.out.mono ?_
                     rintro e w3 ⟨X2, rfl, hm2, hD3, hW3⟩
                     have D3 := hid hD3
                     have Mg2 := hid hm2
                     have W3 := hid (W2.out.trans hW3)
                     clear hD3 hW3 hm2 C3
                     have hfin := hid (FIN.out X1 X2 Mg1.out Mg2.out)
                     have hdat : Hid (Dat w3 g ex (A ++ ((X1 ++ X2) ++ C))) := by show Dat _ _ _ _; have h := D3.out; simpa only [List.append_assoc] using h
                     go_wp2
                     go_end0
                     exact ⟨X1 ++ X2, rfl, hfin.out, hdat.out, W3.out⟩)
                · have g2c : ¬ (a : Int) < (s : Int) := by omega
                  first
                  | (exfalso; omega)
                  | (have D1 : Hid (Dat wr g ex (A ++ (L1 ++ (M1 ++ (L2 ++ (M2 ++ C)))))) := N1.out g1
                     have W1 := hW
                     obtain ⟨X1, hX1⟩ : ∃ X1, X1 = L1 ++ M1 := ⟨_, rfl⟩
                     have Mg1 : Hid (Mg R (L1 ++ M1) X1) := by rw [hX1]; exact N2.out g2
                     have D2 : Hid (Dat wr g ex ((A ++ X1) ++ (L2 ++ (M2 ++ C)))) := by show Dat _ _ _ _; rw [hX1]; have h := D1.out; simpa only [List.append_assoc] using h
                     have W2 := W1
                     clear hX1
                     have hP : Hid ((A ++ X1).length = mid) := by show _ = _; rw [List.length_append, Mg1.out.1.length_eq, List.length_append]; have := ha.out; have := LL1.out; have := LM1.out; omega
                     have C3 := hid (I2.out ⟨g3a, g3b⟩ (A ++ X1) hP wr D2 W2)
                     go_wp2_with fail
                     refine C3.out.mono ?_
                     rintro e w3 ⟨X2, rfl, hm2, hD3, hW3⟩
                     have D3 := hid hD3
                     have Mg2 := hid hm2
                     have W3 := hid (W2.out.trans hW3)
                     clear hD3 hW3 hm2 C3
                     have hfin := hid (FIN.out X1 X2 Mg1.out Mg2.out)
                     have hdat : Hid (Dat w3 g ex (A ++ ((X1 ++ X2) ++ C))) := by show Dat _ _ _ _; have h := D3.out; simpa only [List.append_assoc] using h
                     go_wp2
                     go_end0
                     exact ⟨X1 ++ X2, rfl, hfin.out, hdat.out, W3.out⟩)
            · by_cases g1h : s < m
              · have g1c : (s : Int) < (m : Int) := by omega
                have g1d : ¬ (m : Int) < (en : Int) := by omega
                by_cases g2h : a < s
                · have g2c : (a : Int) < (s : Int) := by omega
                  have g2d : ¬ (s : Int) < (mid : Int) := by omega
                  by_cases g3h : mid < en
                  · have g3c : (mid : Int) < (en : Int) := by omega
                    have g3d : ¬ (en : Int) < (b : Int) := by omega
                    first
                    | (exfalso; omega)
                    | (have D1 : Hid (Dat wr g ex (A ++ (L1 ++ (M1 ++ (L2 ++ (M2 ++ C)))))) := N1.out g1
                       have W1 := hW
                       obtain ⟨X1, hX1⟩ : ∃ X1, X1 = L1 ++ M1 := ⟨_, rfl⟩
                       have Mg1 : Hid (Mg R (L1 ++ M1) X1) := by rw [hX1]; exact N2.out g2
                       have D2 : Hid (Dat wr g ex ((A ++ X1) ++ (L2 ++ (M2 ++ C)))) := by show Dat _ _ _ _; rw [hX1]; have h := D1.out; simpa only [List.append_assoc] using h
                       have W2 := W1
                       clear hX1
                       have hP : Hid ((A ++ X1).length = mid) := by show _ = _; rw [List.length_append, Mg1.out.1.length_eq, List.length_append]; have := ha.out; have := LL1.out; have := LM1.out; omega
                       obtain ⟨X2, hX2⟩ : ∃ X2, X2 = L2 ++ M2 := ⟨_, rfl⟩
                       have Mg2 : Hid (Mg R (L2 ++ M2) X2) := by rw [hX2]; exact N3.out g3
                       have D3 : Hid (Dat wr g ex ((A ++ X1) ++ (X2 ++ C))) := by show Dat _ _ _ _; rw [hX2]; have h := D2.out; simpa only [List.append_assoc] using h
                       have W3 := W2
                       clear hX2
                       have hfin := hid (FIN.out X1 X2 Mg1.out Mg2.out)
                       have hdat : Hid (Dat wr g ex (A ++ ((X1 ++ X2) ++ C))) := by show Dat _ _ _ _; have h := D3.out; simpa only [List.append_assoc] using h
                       go_wp2
                       go_end0
                       exact ⟨X1 ++ X2, rfl, hfin.out, hdat.out, W3.out⟩)
                  · have g3c : ¬ (mid : Int) < (en : Int) := by omega
                    first
                    | (exfalso; omega)
                    | (have D1 : Hid (Dat wr g ex (A ++ (L1 ++ (M1 ++ (L2 ++ (M2 ++ C)))))) := N1.out g1
                       have W1 := hW
                       obtain ⟨X1, hX1⟩ : ∃ X1, X1 = L1 ++ M1 := ⟨_, rfl⟩
                       have Mg1 : Hid (Mg R (L1 ++ M1) X1) := by rw [hX1]; exact N2.out g2
                       have D2 : Hid (Dat wr g ex ((A ++ X1) ++ (L2 ++ (M2 ++ C)))) := by show Dat _ _ _ _; rw [hX1]; have h := D1.out; simpa only [List.append_assoc] using h
                       have W2 := W1
                       clear hX1
                       have hP : Hid ((A ++ X1).length = mid) := by show _ = _; rw [List.length_append, Mg1.out.1.length_eq, List.length_append]; have := ha.out; have := LL1.out; have := LM1.out; omega
                       obtain ⟨X2, hX2⟩ : ∃ X2, X2 = L2 ++ M2 := ⟨_, rfl⟩
                       have Mg2 : Hid (Mg R (L2 ++ M2) X2) := by rw [hX2]; exact N3.out g3
                       have D3 : Hid (Dat wr g ex ((A ++ X1) ++ (X2 ++ C))) := by show Dat _ _ _ _; rw [hX2]; have h := D2.out; simpa only [List.append_assoc] using h
                       have W3 := W2
                       clear hX2
                       have hfin := hid (FIN.out X1 X2 Mg1.out Mg2.out)
                       have hdat : Hid (Dat wr g ex (A ++ ((X1 ++ X2) ++ C))) := by show Dat _ _ _ _; have h := D3.out; simpa only [List.append_assoc] using h
                       go_wp2
                       go_end0
                       exact ⟨X1 ++ X2, rfl, hfin.out, hdat.out, W3.out⟩)
                · have g2c : ¬ (a : Int) < (s : Int) := by omega
                  by_cases g3h : mid < en
                  · have g3c : (mid : Int) < (en : Int) := by omega
                    have g3d : ¬ (en : Int) < (b : Int) := by omega
                    first
                    | (exfalso; omega)
                    | (have D1 : Hid (Dat wr g ex (A ++ (L1 ++ (M1 ++ (L2 ++ (M2 ++ C)))))) := N1.out g1
                       have W1 := hW
                       obtain ⟨X1, hX1⟩ : ∃ X1, X1 = L1 ++ M1 := ⟨_, rfl⟩
                       have Mg1 : Hid (Mg R (L1 ++ M1) X1) := by rw [hX1]; exact N2.out g2
                       have D2 : Hid (Dat wr g ex ((A ++ X1) ++ (L2 ++ (M2 ++ C)))) := by show Dat _ _ _ _; rw [hX1]; have h := D1.out; simpa only [List.append_assoc] using h
                       have W2 := W1
                       clear hX1
                       have hP : Hid ((A ++ X1).length = mid) := by show _ = _; rw [List.length_append, Mg1.out.1.length_eq, List.length_append]; have := ha.out; have := LL1.out; have := LM1.out; omega
                       obtain ⟨X2, hX2⟩ : ∃ X2, X2 = L2 ++ M2 := ⟨_, rfl⟩
                       have Mg2 : Hid (Mg R (L2 ++ M2) X2) := by rw [hX2]; exact N3.out g3
                       have D3 : Hid (Dat wr g ex ((A ++ X1) ++ (X2 ++ C))) := by show Dat _ _ _ _; rw [hX2]; have h := D2.out; simpa only [List.append_assoc] using h
                       have W3 := W2
                       clear hX2
                       have hfin := hid (FIN.out X1 X2 Mg1.out Mg2.out)
                       have hdat : Hid (Dat wr g ex (A ++ ((X1 ++ X2) ++ C))) := by show Dat _ _ _ _; have h := D3.out; simpa only [List.append_assoc] using h
                       go_wp2
                       go_end0
                       exact ⟨X1 ++ X2, rfl, hfin.out, hdat.out, W3.out⟩)
                  · have g3c : ¬ (mid : Int) < (en : Int) := by omega
                    first
                    | (exfalso; omega)
                    | (have D1 : Hid (Dat wr g ex (A ++ (L1 ++ (M1 ++ (L2 ++ (M2 ++ C)))))) := N1.out g1
                       have W1 := hW
                       obtain ⟨X1, hX1⟩ : ∃ X1, X1 = L1 ++ M1 := ⟨_, rfl⟩
                       have Mg1 : Hid (Mg R (L1 ++ M1) X1) := by rw [hX1]; exact N2.out g2
                       have D2 : Hid (Dat wr g ex ((A ++ X1) ++ (L2 ++ (M2 ++ C)))) := by show Dat _ _ _ _; rw [hX1]; have h := D1.out; simpa only [List.append_assoc] using h
                       have W2 := W1
                       clear hX1
                       have hP : Hid ((A ++ X1).length = mid) := by show _ = _; rw [List.length_append, Mg1.out.1.length_eq, List.length_append]; have := ha.out; have := LL1.out; have := LM1.out; omega
                       obtain ⟨X2, hX2⟩ : ∃ X2, X2 = L2 ++ M2 := ⟨_, rfl⟩
                       have Mg2 : Hid (Mg R (L2 ++ M2) X2) := by rw [hX2]; exact N3.out g3
                       have D3 : Hid (Dat wr g ex ((A ++ X1) ++ (X2 ++ C))) := by show Dat _ _ _ _; rw [hX2]; have h := D2.out; simpa only [List.append_assoc] using h
                       have W3 := W2
                       clear hX2
                       have hfin := hid (FIN.out X1 X2 Mg1.out Mg2.out)
                       have hdat : Hid (Dat wr g ex (A ++ ((X1 ++ X2) ++ C))) := by show Dat _ _ _ _; have h := D3.out; simpa only [List.append_assoc] using h
                       go_wp2
                       go_end0
                       exact ⟨X1 ++ X2, rfl, hfin.out, hdat.out, W3.out⟩)
              · have g1c : ¬ (s : Int) < (m : Int) := by omega
                by_cases g2h : a < s
                · have g2c : (a : Int) < (s : Int) := by omega
                  have g2d : ¬ (s : Int) < (mid : Int) := by omega
                  by_cases g3h : mid < en
                  · have g3c : (mid : Int) < (en : Int) := by omega
                    have g3d : ¬ (en : Int) < (b : Int) := by omega
                    first
                    | (exfalso; omega)
                    | (have D1 : Hid (Dat wr g ex (A ++ (L1 ++ (M1 ++ (L2 ++ (M2 ++ C)))))) := N1.out g1
                       have W1 := hW
                       obtain ⟨X1, hX1⟩ : ∃ X1, X1 = L1 ++ M1 := ⟨_, rfl⟩
                       have Mg1 : Hid (Mg R (L1 ++ M1) X1) := by rw [hX1]; exact N2.out g2
                       have D2 : Hid (Dat wr g ex ((A ++ X1) ++ (L2 ++ (M2 ++ C)))) := by show Dat _ _ _ _; rw [hX1]; have h := D1.out; simpa only [List.append_assoc] using h
                       have W2 := W1
                       clear hX1
                       have hP : Hid ((A ++ X1).length = mid) := by show _ = _; rw [List.length_append, Mg1.out.1.length_eq, List.length_append]; have := ha.out; have := LL1.out; have := LM1.out; omega
                       obtain ⟨X2, hX2⟩ : ∃ X2, X2 = L2 ++ M2 := ⟨_, rfl⟩
                       have Mg2 : Hid (Mg R (L2 ++ M2) X2) := by rw [hX2]; exact N3.out g3
                       have D3 : Hid (Dat wr g ex ((A ++ X1) ++ (X2 ++ C))) := by show Dat _ _ _ _; rw [hX2]; have h := D2.out; simpa only [List.append_assoc] using h
                       have W3 := W2
                       clear hX2
                       have hfin := hid (FIN.out X1 X2 Mg1.out Mg2.out)
                       have hdat : Hid (Dat wr g ex (A ++ ((X1 ++ X2) ++ C))) := by show Dat _ _ _ _; have h := D3.out; simpa only [List.append_assoc] using h
                       go_wp2
                       go_end0
                       exact ⟨X1 ++ X2, rfl, hfin.out, hdat.out, W3.out⟩)
                  · have g3c : ¬ (mid : Int) < (en : Int) := by omega
                    first
                    | (exfalso; omega)
                    | (have D1 : Hid (Dat wr g ex (A ++ (L1 ++ (M1 ++ (L2 ++ (M2 ++ C)))))) := N1.out g1
                       have W1 := hW
                       obtain ⟨X1, hX1⟩ : ∃ X1, X1 = L1 ++ M1 := ⟨_, rfl⟩
                       have Mg1 : Hid (Mg R (L1 ++ M1) X1) := by rw [hX1]; exact N2.out g2
                       have D2 : Hid (Dat wr g ex ((A ++ X1) ++ (L2 ++ (M2 ++ C)))) := by show Dat _ _ _ _; rw [hX1]; have h := D1.out; simpa only [List.append_assoc] using h
                       have W2 := W1
                       clear hX1
                       have hP : Hid ((A ++ X1).length = mid) := by show _ = _; rw [List.length_append, Mg1.out.1.length_eq, List.length_append]; have := ha.out; have := LL1.out; have := LM1.out; omega
                       obtain ⟨X2, hX2⟩ : ∃ X2, X2 = L2 ++ M2 := ⟨_, rfl⟩
                       have Mg2 : Hid (Mg R (L2 ++ M2) X2) := by rw [hX2]; exact N3.out g3
                       have D3 : Hid (Dat wr g ex ((A ++ X1) ++ (X2 ++ C))) := by show Dat _ _ _ _; rw [hX2]; have h := D2.out; simpa only [List.append_assoc] using h
                       have W3 := W2
                       clear hX2
                       have hfin := hid (FIN.out X1 X2 Mg1.out Mg2.out)
                       have hdat : Hid (Dat wr g ex (A ++ ((X1 ++ X2) ++ C))) := by show Dat _ _ _ _; have h := D3.out; simpa only [List.append_assoc] using h
                       go_wp2
                       go_end0
                       exact ⟨X1 ++ X2, rfl, hfin.out, hdat.out, W3.out⟩)
                · have g2c : ¬ (a : Int) < (s : Int) := by omega
                  by_cases g3h : mid < en
                  · have g3c : (mid : Int) < (en : Int) := by omega
                    have g3d : ¬ (en : Int) < (b : Int) := by omega
                    first
                    | (exfalso; omega)
                    | (have D1 : Hid (Dat wr g ex (A ++ (L1 ++ (M1 ++ (L2 ++ (M2 ++ C)))))) := N1.out g1
                       have W1 := hW
                       obtain ⟨X1, hX1⟩ : ∃ X1, X1 = L1 ++ M1 := ⟨_, rfl⟩
                       have Mg1 : Hid (Mg R (L1 ++ M1) X1) := by rw [hX1]; exact N2.out g2
                       have D2 : Hid (Dat wr g ex ((A ++ X1) ++ (L2 ++ (M2 ++ C)))) := by show Dat _ _ _ _; rw [hX1]; have h := D1.out; simpa only [List.append_assoc] using h
                       have W2 := W1
                       clear hX1
                       have hP : Hid ((A ++ X1).length = mid) := by show _ = _; rw [List.length_append, Mg1.out.1.length_eq, List.length_append]; have := ha.out; have := LL1.out; have := LM1.out; omega
                       obtain ⟨X2, hX2⟩ : ∃ X2, X2 = L2 ++ M2 := ⟨_, rfl⟩
                       have Mg2 : Hid (Mg R (L2 ++ M2) X2) := by rw [hX2]; exact N3.out g3
                       have D3 : Hid (Dat wr g ex ((A ++ X1) ++ (X2 ++ C))) := by show Dat _ _ _ _; rw [hX2]; have h := D2.out; simpa only [List.append_assoc] using h
                       have W3 := W2
                       clear hX2
                       have hfin := hid (FIN.out X1 X2 Mg1.out Mg2.out)
                       have hdat : Hid (Dat wr g ex (A ++ ((X1 ++ X2) ++ C))) := by show Dat _ _ _ _; have h := D3.out; simpa only [List.append_assoc] using h
                       go_wp2
                       go_end0
                       exact ⟨X1 ++ X2, rfl, hfin.out, hdat.out, W3.out⟩)
                  · have g3c : ¬ (mid : Int) < (en : Int) := by omega
                    first
                    | (exfalso; omega)
                    | (have D1 : Hid (Dat wr g ex (A ++ (L1 ++ (M1 ++ (L2 ++ (M2 ++ C)))))) := N1.out g1
                       have W1 := hW
                       obtain ⟨X1, hX1⟩ : ∃ X1, X1 = L1 ++ M1 := ⟨_, rfl⟩
                       have Mg1 : Hid (Mg R (L1 ++ M1) X1) := by rw [hX1]; exact N2.out g2
                       have D2 : Hid (Dat wr g ex ((A ++ X1) ++ (L2 ++ (M2 ++ C)))) := by show Dat _ _ _ _; rw [hX1]; have h := D1.out; simpa only [List.append_assoc] using h
                       have W2 := W1
                       clear hX1
                       have hP : Hid ((A ++ X1).length = mid) := by show _ = _; rw [List.length_append, Mg1.out.1.length_eq, List.length_append]; have := ha.out; have := LL1.out; have := LM1.out; omega
                       obtain ⟨X2, hX2⟩ : ∃ X2, X2 = L2 ++ M2 := ⟨_, rfl⟩
                       have Mg2 : Hid (Mg R (L2 ++ M2) X2) := by rw [hX2]; exact N3.out g3
                       have D3 : Hid (Dat wr g ex ((A ++ X1) ++ (X2 ++ C))) := by show Dat _ _ _ _; rw [hX2]; have h := D2.out; simpa only [List.append_assoc] using h
                       have W3 := W2
                       clear hX2
                       have hfin := hid (FIN.out X1 X2 Mg1.out Mg2.out)
                       have hdat : Hid (Dat wr g ex (A ++ ((X1 ++ X2) ++ C))) := by show Dat _ _ _ _; have h := D3.out; simpa only [List.append_assoc] using h
                       go_wp2
                       go_end0
                       exact ⟨X1 ++ X2, rfl, hfin.out, hdat.out, W3.out⟩)
theorem symMerge_any (g B c N f : Nat) (cb : Array Value) (ex : List Value) (cf : Int → Int → Int) (R : Int → Int → Prop) (E : Int → Prop) (w0 : World) (tr : Hid (∀ a b c, R a b → R b c → R a c)) (hc : CmpOk f cb g B w0 E cf) (hN2 : N ≤ 1048576) (d : Nat) :
    ∀ (a m b : Nat) (A L M C : List Int) (w : World), L.length + M.length ≤ d → Bes g B w0 w → (∀ y ∈ L ++ M, E y) → Hid (A.length = a) → Hid (a + L.length = m) → Hid (m + M.length = b) → b ≤ N → 0 < L.length → 0 < M.length → L.Pairwise R → M.Pairwise R → Cross (ltC cf) R L M → Dat w g ex (A ++ (L ++ (M ++ C))) →
      Calls Try.prog 138 #[.slice (some ⟨g, 0, none⟩) N c, .int .i64 a, .int .i64 m, .int .i64 b, .func (.func f) #[] cb] w (RetM g B ex w A C R (L ++ M)) := by
  induction d with
  | zero => intro a m b A L M C w h1 _ _ _ _ _ _ h2 _ _ _ _ _; omega
  | succ d ih =>
    intro a m b A L M C w h1 h2 h3 h4 h5 h6 h7 h8 h9 h10 h11 h12 h13
    by_cases hl : L.length = 1
    · obtain ⟨l, rfl⟩ := List.length_eq_one_iff.1 hl
      exact symMerge_left g B c N a m b f cb ex A M C l cf R E w0 w tr hc h2 h3 h4 h5 h6 h7 hN2 h11 h12 h13
    · by_cases hm : M.length = 1
      · obtain ⟨r, rfl⟩ := List.length_eq_one_iff.1 hm
        exact symMerge_right g B c N a m b f cb ex A L C r cf R E w0 w tr hc h2 h3 h4 h5 h6 hl h7 hN2 h10 h12 h13
      · exact symMerge_step g B c N a m b f d cb ex A L M C cf R E w0 w tr hc hN2 ih h1 h2 h3 h4 h5 h6 h7 (by omega) (by omega) h10 h11 h12 h13
end Go.Proofs.Ytmmolicodlmlkaa
