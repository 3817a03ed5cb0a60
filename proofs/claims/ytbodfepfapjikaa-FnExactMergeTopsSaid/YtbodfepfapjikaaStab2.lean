/-
  The library's merging by halves (symMerge), by contract: one element and a sorted range; the general step by recursion.
-/
import Derived.Test.YtbodfepfapjikaaStab
import Derived.Test.YtbodfepfapjikaaStabQ
namespace Go.Proofs.Ytbodfepfapjikaa
open Go.RowKit Go.Shelf
set_option linter.unusedVariables false
set_option linter.unusedSimpArgs false

/-- What a merge leaves. -/
def RetM (g B : Nat) (ex : List Value) (w : World) (A C : List Int) (R : Int → Int → Prop) (X : List Int) (e : Ending) (w' : World) : Prop := ∃ M, e = .returned (.tuple #[]) ∧ Mg R X M ∧ Dat w' g ex (A ++ (M ++ C)) ∧ Bes g B w w'
theorem Dat.elt {w : World} {g : Nat} {ex : List Value} {x : List Int} (h : Dat w g ex x) {i : Nat} (hi : i < x.length) : ∃ u, x[i]? = some u ∧ w.cell? ⟨g, i, none⟩ = some (.int .i64 u) :=
  ⟨_, List.getElem?_eq_getElem hi, (h.at_ (List.getElem?_eq_getElem hi)).1⟩
/-- Neighbours change places. -/
theorem dat_swap {w : World} {g i : Nat} {ex : List Value} {P S : List Int} {u v : Int} (h : Dat w g ex (P ++ u :: v :: S)) (hi : P.length = i) :
    (w.cell? ⟨g, i, none⟩ = some (.int .i64 u) ∧ w.frozen? ⟨g, i, none⟩ = false) ∧ (w.cell? ⟨g, i + 1, none⟩ = some (.int .i64 v) ∧ w.frozen? ⟨g, i + 1, none⟩ = false) ∧
    Dat ((w.setCell ⟨g, i, none⟩ (.int .i64 v)).setCell ⟨g, i + 1, none⟩ (.int .i64 u)) g ex (P ++ v :: u :: S) ∧ Dat ((w.setCell ⟨g, i + 1, none⟩ (.int .i64 u)).setCell ⟨g, i, none⟩ (.int .i64 v)) g ex (P ++ v :: u :: S) := by
  have e1 : (P ++ u :: v :: S)[i]? = some u := at_mid' hi
  have e2 : (P ++ u :: v :: S)[i + 1]? = some v := by
    have h3 := at_mid' (A := P ++ [u]) (b := v) (C := S) (n := i + 1) (by simp [hi])
    simpa using h3
  have hl : (P ++ u :: v :: S).length = i + 2 + S.length := by simp; omega
  refine ⟨h.at_ e1, h.at_ e2, h.two (by omega) (by omega) ?_, h.two (by omega) (by omega) ?_⟩
  · exact set_two (B := []) (C := S) hi (by simp)
  · exact set_two' (B := []) (C := S) hi (by simp)
theorem dropCons {L : List Int} {t : Nat} (h : t < L.length) : L.drop t = L[t] :: L.drop (t + 1) := List.drop_eq_getElem_cons h
theorem takeSnoc {L : List Int} {t : Nat} (h : t < L.length) : L.take (t + 1) = L.take t ++ [L[t]] := by rw [List.take_add_one, List.getElem?_eq_getElem h]; rfl
set_option maxRecDepth 100000 in
set_option maxHeartbeats 3200000 in
theorem symMerge_left (g B c N a m b f : Nat) (cb : Array Value) (ex : List Value) (A M C : List Int) (l : Int) (cf : Int → Int → Int) (R : Int → Int → Prop) (E : Int → Prop) (w0 w : World) (tr : Hid (∀ a b c, R a b → R b c → R a c)) (hc : CmpOk f cb g B w0 E cf) (hw : Bes g B w0 w) (hE : ∀ y ∈ [l] ++ M, E y)
    (ha : Hid (A.length = a)) (hm : Hid (a + 1 = m)) (hb : Hid (m + M.length = b)) (hN : b ≤ N) (hN2 : N ≤ 1048576) (hM : Hid (M.Pairwise R)) (hX : Hid (Cross (ltC cf) R [l] M)) (hD : Dat w g ex (A ++ ([l] ++ (M ++ C)))) :
    Calls Try.prog 152 #[.slice (some ⟨g, 0, none⟩) N c, .int .i64 a, .int .i64 m, .int .i64 b, .func (.func f) #[] cb] w (RetM g B ex w A C R ([l] ++ M)) := by
  have HC := hid hc
  have eg := hc.enters
  have W0 := hid hw
  have HE := hid hE
  have D0 := hid hD
  have hma : m = a + 1 := hm.out.symm
  have hmb : m + M.length ≤ b ∧ b ≤ m + M.length := by have := hb.out; omega
  have v0 : IntKind.i64.wrap ((m : Int) - (a : Int)) = 1 := by rw [IntKind.wrap_i64]; omega
  have ham : a ≤ m := by omega
  clear hc hw hE hD hma
  go_enter Try.func152, Try.ntmps152
  go_wp2
  clear v0
  go_loopw [10, 11] (fun ti tj wr => ∃ i j : Nat, ti = .int .i64 i ∧ tj = .int .i64 j ∧ m ≤ i ∧ i ≤ j ∧ j ≤ b ∧ Hid (∀ u, m < i → M[i - m - 1]? = some u → ltC cf u l = true) ∧ Hid (∀ u, M[j - m]? = some u → ltC cf u l = false) ∧ Hid (Dat wr g ex (A ++ ([l] ++ (M ++ C)))) ∧ Hid (Bes g B w wr)) (fun ti tj _ => (intOf tj).toNat - (intOf ti).toNat)
  case atStart =>
    refine ⟨m, b, rfl, rfl, Nat.le_refl _, by omega, Nat.le_refl _, ?_, ?_, D0, Bes.refl _ _ _⟩
    · intro u h; omega
    · intro u hu
      have := (List.getElem?_eq_some_iff.1 hu).1
      omega
  case round =>
    obtain ⟨i, j, rfl, rfl, hmi, hij, hjb, hI, hJ, hD, hW⟩ := hrel
    by_cases hlt : i < j
    · have hi : (i : Int) < (j : Int) := by omega
      obtain ⟨h, hh⟩ : ∃ h, h = (i + j) / 2 := ⟨_, rfl⟩
      have hh1 : m ≤ h ∧ i ≤ h ∧ h < j := by omega
      have hhd : ((i : Int) + (j : Int)) / 2 = (h : Int) := by omega
      obtain ⟨u, hu⟩ : ∃ u, M[h - m]? = some u := ⟨_, List.getElem?_eq_getElem (by omega)⟩
      have e1 : (A ++ ([l] ++ (M ++ C)))[a]? = some l := at_mid' ha.out
      have e2 : (A ++ ([l] ++ (M ++ C)))[h]? = some u := by rw [seg2 (m := m) (by have := ha.out; have := hm.out; simp; omega) hh1.1 (by omega)]; exact hu
      have l1 := (List.getElem?_eq_some_iff.1 e1).1
      have l2 := (List.getElem?_eq_some_iff.1 e2).1
      have c1 := (hD.out.at_ e1).1
      have c2 := (hD.out.at_ e2).1
      have b1 : (h : Int) < (N : Int) := by omega
      have b2 : (a : Int) < (N : Int) := by omega
      have CC := hid (HC.out.call)
      have hEu := HE.out u (by simp [List.mem_of_getElem? hu])
      have hEl := HE.out l (by simp)
      obtain ⟨v, hv⟩ : ∃ v, v = cf u l := ⟨_, rfl⟩
      have k1 : ∀ p', (behind wr p').cell? ⟨g, a, none⟩ = some (.int .i64 l) := cell_behind c1
      have k2 : ∀ p', (behind wr p').cell? ⟨g, h, none⟩ = some (.int .i64 u) := cell_behind c2
      have CB : Hid (∀ p', Calls Try.prog f (#[.int .i64 u, .int .i64 l] ++ cb) (behind wr p') fun e w'' => e = .returned (.int .i64 v) ∧ ∃ q : BehindBy, w'' = behind wr q) := fun p' => by
        rw [hv]
        exact calls_behind (HC.out.call _ (W0.out.trans (hW.out.call (behind_below wr p') (Nat.le_trans HC.out.room W0.out.size))) u l hEu hEl)
      have hltv : ltC cf u l = decide (v < 0) := by rw [hv]; rfl
      have LV := hid hltv
      have HU := hid hu
      clear hh hu e1 e2 l1 l2 c1 c2 CC hEu hEl hv hltv
      by_cases hvz : v < 0
      · have hI2 : Hid (∀ u, m < h + 1 → M[h + 1 - m - 1]? = some u → ltC cf u l = true) := fun u' _ hu' => by
          rw [show h + 1 - m - 1 = h - m by omega, HU.out] at hu'
          injection hu' with hu'
          rw [← hu', LV.out]; exact decide_eq_true hvz
        go_wp2
        refine wp_region_quiet_below (by kernel_rfl) (by kernel_rfl) ?_
        repeat (quiet_step ((go_at_fn f; exact CB.out _)))
        refine wpQuiet_nil ?_
        intro w3 hw3
        have hbb := behind_all hw3
        have O3 := hid (hD.out.below hbb)
        have W3 := hid (hW.out.call hbb (Nat.le_trans HC.out.room W0.out.size))
        clear hbb hw3 k1 k2 hD
        go_wp2
        exact ⟨⟨h + 1, j, by go_num, rfl, by omega, by omega, hjb, hI2, hJ, O3, W3⟩, by simp [intOf]; omega⟩
      · have hJ2 : Hid (∀ u, M[h - m]? = some u → ltC cf u l = false) := fun u' hu' => by
          rw [HU.out] at hu'
          injection hu' with hu'
          rw [← hu', LV.out]; exact decide_eq_false hvz
        go_wp2
        refine wp_region_quiet_below (by kernel_rfl) (by kernel_rfl) ?_
        repeat (quiet_step ((go_at_fn f; exact CB.out _)))
        refine wpQuiet_nil ?_
        intro w3 hw3
        have hbb := behind_all hw3
        have O3 := hid (hD.out.below hbb)
        have W3 := hid (hW.out.call hbb (Nat.le_trans HC.out.room W0.out.size))
        clear hbb hw3 k1 k2 hD
        go_wp2
        exact ⟨⟨i, h, rfl, rfl, hmi, by omega, by omega, hI, hJ2, O3, W3⟩, by simp [intOf]; omega⟩
    · have hi : ¬ (i : Int) < (j : Int) := by omega
      obtain rfl : i = j := by omega
      obtain ⟨q, hq⟩ : ∃ q, q = i - m := ⟨_, rfl⟩
      have hqM : q ≤ M.length := by omega
      have hMg : Hid (Mg R ([l] ++ M) (M.take q ++ l :: M.drop q)) := by
        refine one_left (lt := ltC cf) tr.out hM.out hX.out hqM (fun u hp hu => hI.out u (by omega) ?_) (fun u hu => hJ.out u ?_)
        · rw [← hq]; exact hu
        · rw [← hq]; exact hu
      have D1 : Hid (Dat wr g ex (A ++ (M.take 0 ++ l :: (M.drop 0 ++ C)))) := by show Dat _ _ _ _; have := hD.out; simpa using this
      have hqi : a + q + 1 ≤ i ∧ i ≤ a + q + 1 := by have := hm.out; omega
      have v2 : IntKind.i64.wrap ((i : Int) - 1) = ((a + q : Nat) : Int) := by rw [IntKind.wrap_i64]; omega
      obtain ⟨z, hz⟩ : ∃ z, z = a + q := ⟨_, rfl⟩
      rw [← hz] at v2
      have hzz : z ≤ a + q ∧ a + q ≤ z ∧ z + 1 ≤ i := by omega
      clear hI hJ hD hq hz hqi
      go_wp2
      go_loopw [13] (fun t wq => ∃ k y : Nat, k ≤ q ∧ y ≤ a + k ∧ a + k ≤ y ∧ t = .int .i64 y ∧ Hid (Dat wq g ex (A ++ (M.take k ++ l :: (M.drop k ++ C)))) ∧ Hid (Bes g B w wq)) (fun t _ => z - (intOf t).toNat)
      case atStart => exact ⟨0, a, Nat.zero_le _, by omega, by omega, rfl, D1, hW⟩
      case round =>
        obtain ⟨k, y, hk, hy1, hy2, rfl, hDk, hWk⟩ := hrel
        by_cases hkq : k < q
        · have hg1 : (y : Int) < (z : Int) := by omega
          have hkM : k < M.length := by omega
          obtain ⟨u, hu⟩ : ∃ u, u = M[k] := ⟨_, rfl⟩
          have hdk : Dat wr g ex ((A ++ M.take k) ++ l :: u :: (M.drop (k + 1) ++ C)) := by
            have h := hDk.out
            rw [dropCons hkM, ← hu] at h
            simpa only [List.append_assoc, List.cons_append] using h
          have hyl : (A ++ M.take k).length = y := by have := ha.out; simp; omega
          obtain ⟨⟨c1, f1⟩, ⟨c2, f2⟩, d1, d2⟩ := dat_swap hdk hyl
          have e3 : (A ++ M.take k) ++ u :: l :: (M.drop (k + 1) ++ C) = A ++ (M.take (k + 1) ++ l :: (M.drop (k + 1) ++ C)) := by
            rw [takeSnoc hkM, ← hu]; simp only [List.append_assoc, List.cons_append, List.nil_append]
          rw [e3] at d1 d2
          obtain ⟨y1, hy1'⟩ : ∃ y1, y1 = y + 1 := ⟨_, rfl⟩
          rw [← hy1'] at c2 f2 d1 d2
          have b1 : (y : Int) < (N : Int) := by omega
          have b2 : (y1 : Int) < (N : Int) := by omega
          have b3 : y ≠ y1 := by omega
          have b4 : y1 ≠ y := by omega
          have q1 : y1 ≤ a + (k + 1) ∧ a + (k + 1) ≤ y1 ∧ y < y1 := by omega
          have DN := hid d1
          have e4 : IntKind.i64.wrap ((y : Int) + 1) = (y1 : Int) := by rw [IntKind.wrap_i64]; omega
          clear hdk hyl d1 d2 e3 hy1' hu hDk
          go_wp2
          go_big_region
          go_wp2
          exact ⟨⟨k + 1, y1, by omega, q1.1, q1.2.1, rfl, DN.out.drew1, ((hWk.out.set_ y _).set_ y1 _).drew1⟩, by simp [intOf]; omega⟩
        · have hg1 : ¬ (y : Int) < (z : Int) := by omega
          obtain rfl : k = q := by omega
          have hfin : Hid (Dat wr g ex (A ++ ((M.take k ++ l :: M.drop k) ++ C))) := by show Dat _ _ _ _; have := hDk.out; simpa using this
          clear hDk
          go_wp2
          go_end0
          exact ⟨_, rfl, hMg.out, hfin.out, hWk.out⟩
set_option maxRecDepth 100000 in
set_option maxHeartbeats 3200000 in
theorem symMerge_right (g B c N a m b f : Nat) (cb : Array Value) (ex : List Value) (A L C : List Int) (r : Int) (cf : Int → Int → Int) (R : Int → Int → Prop) (E : Int → Prop) (w0 w : World) (tr : Hid (∀ a b c, R a b → R b c → R a c)) (hc : CmpOk f cb g B w0 E cf) (hw : Bes g B w0 w) (hE : ∀ y ∈ L ++ [r], E y)
    (ha : Hid (A.length = a)) (hm : Hid (a + L.length = m)) (hb : Hid (m + 1 = b)) (h1 : L.length ≠ 1) (hN : b ≤ N) (hN2 : N ≤ 1048576) (hL : Hid (L.Pairwise R)) (hX : Hid (Cross (ltC cf) R L [r])) (hD : Dat w g ex (A ++ (L ++ ([r] ++ C)))) :
    Calls Try.prog 152 #[.slice (some ⟨g, 0, none⟩) N c, .int .i64 a, .int .i64 m, .int .i64 b, .func (.func f) #[] cb] w (RetM g B ex w A C R (L ++ [r])) := by
  have HC := hid hc
  have eg := hc.enters
  have W0 := hid hw
  have HE := hid hE
  have D0 := hid hD
  have hma : a + L.length ≤ m ∧ m ≤ a + L.length := by have := hm.out; omega
  have hmb : m + 1 ≤ b ∧ b ≤ m + 1 := by have := hb.out; omega
  obtain ⟨nl, hnl⟩ : ∃ nl, nl = L.length := ⟨_, rfl⟩
  have v0 : IntKind.i64.wrap ((m : Int) - (a : Int)) = (nl : Int) := by rw [IntKind.wrap_i64]; omega
  have v1 : IntKind.i64.wrap ((b : Int) - (m : Int)) = 1 := by rw [IntKind.wrap_i64]; omega
  have v2 : ((nl : Int) == 1) = false := beq_eq_false_iff_ne.2 (by omega)
  clear hc hw hE hD hnl h1
  go_enter Try.func152, Try.ntmps152
  go_wp2
  clear v0 v1 v2
  go_loopw [14, 15] (fun ti tj wr => ∃ i j : Nat, ti = .int .i64 i ∧ tj = .int .i64 j ∧ a ≤ i ∧ i ≤ j ∧ j ≤ m ∧ Hid (∀ u, a < i → L[i - a - 1]? = some u → ltC cf r u = false) ∧ Hid (∀ u, L[j - a]? = some u → ltC cf r u = true) ∧ Hid (Dat wr g ex (A ++ (L ++ ([r] ++ C)))) ∧ Hid (Bes g B w wr)) (fun ti tj _ => (intOf tj).toNat - (intOf ti).toNat)
  case atStart =>
    refine ⟨a, m, rfl, rfl, Nat.le_refl _, by omega, Nat.le_refl _, ?_, ?_, D0, Bes.refl _ _ _⟩
    · intro u h; omega
    · intro u hu
      have := (List.getElem?_eq_some_iff.1 hu).1
      omega
  case round =>
    obtain ⟨i, j, rfl, rfl, hai, hij, hjm, hI, hJ, hD, hW⟩ := hrel
    by_cases hlt : i < j
    · have hi : (i : Int) < (j : Int) := by omega
      obtain ⟨h, hh⟩ : ∃ h, h = (i + j) / 2 := ⟨_, rfl⟩
      have hh1 : a ≤ h ∧ i ≤ h ∧ h < j := by omega
      have hhd : ((i : Int) + (j : Int)) / 2 = (h : Int) := by omega
      obtain ⟨u, hu⟩ : ∃ u, L[h - a]? = some u := ⟨_, List.getElem?_eq_getElem (by omega)⟩
      have e1 : (A ++ (L ++ ([r] ++ C)))[m]? = some r := by rw [seg2 (M := [r]) (m := m) (by have := ha.out; omega) (Nat.le_refl _) (by simp), Nat.sub_self]; rfl
      have e2 : (A ++ (L ++ ([r] ++ C)))[h]? = some u := by rw [seg1 ha.out hh1.1 (by omega)]; exact hu
      have l1 := (List.getElem?_eq_some_iff.1 e1).1
      have l2 := (List.getElem?_eq_some_iff.1 e2).1
      have c1 := (hD.out.at_ e1).1
      have c2 := (hD.out.at_ e2).1
      have b1 : (h : Int) < (N : Int) := by omega
      have b2 : (m : Int) < (N : Int) := by omega
      have hEu := HE.out u (by simp [List.mem_of_getElem? hu])
      have hEl := HE.out r (by simp)
      obtain ⟨v, hv⟩ : ∃ v, v = cf r u := ⟨_, rfl⟩
      have k1 : ∀ p', (behind wr p').cell? ⟨g, m, none⟩ = some (.int .i64 r) := cell_behind c1
      have k2 : ∀ p', (behind wr p').cell? ⟨g, h, none⟩ = some (.int .i64 u) := cell_behind c2
      have CB : Hid (∀ p', Calls Try.prog f (#[.int .i64 r, .int .i64 u] ++ cb) (behind wr p') fun e w'' => e = .returned (.int .i64 v) ∧ ∃ q : BehindBy, w'' = behind wr q) := fun p' => by
        rw [hv]
        exact calls_behind (HC.out.call _ (W0.out.trans (hW.out.call (behind_below wr p') (Nat.le_trans HC.out.room W0.out.size))) r u hEl hEu)
      have hltv : ltC cf r u = decide (v < 0) := by rw [hv]; rfl
      have LV := hid hltv
      have HU := hid hu
      clear hh hu e1 e2 l1 l2 c1 c2 hEu hEl hv hltv
      by_cases hvz : v < 0
      · have hvd : decide (v < 0) = true := decide_eq_true hvz
        have hJ2 : Hid (∀ u, L[h - a]? = some u → ltC cf r u = true) := fun u' hu' => by
          rw [HU.out] at hu'
          injection hu' with hu'
          rw [← hu', LV.out]; exact decide_eq_true hvz
        go_wp2
        refine wp_region_quiet_below (by kernel_rfl) (by kernel_rfl) ?_
        repeat (quiet_step ((go_at_fn f; exact CB.out _)))
        refine wpQuiet_nil ?_
        intro w3 hw3
        have hbb := behind_all hw3
        have O3 := hid (hD.out.below hbb)
        have W3 := hid (hW.out.call hbb (Nat.le_trans HC.out.room W0.out.size))
        clear hbb hw3 k1 k2 hD
        go_wp2
        exact ⟨⟨i, h, rfl, rfl, hai, by omega, by omega, hI, hJ2, O3, W3⟩, by simp [intOf]; omega⟩
      · have hvd : decide (v < 0) = false := decide_eq_false hvz
        have hI2 : Hid (∀ u, a < h + 1 → L[h + 1 - a - 1]? = some u → ltC cf r u = false) := fun u' _ hu' => by
          rw [show h + 1 - a - 1 = h - a by omega, HU.out] at hu'
          injection hu' with hu'
          rw [← hu', LV.out]; exact decide_eq_false hvz
        go_wp2
        refine wp_region_quiet_below (by kernel_rfl) (by kernel_rfl) ?_
        repeat (quiet_step ((go_at_fn f; exact CB.out _)))
        refine wpQuiet_nil ?_
        intro w3 hw3
        have hbb := behind_all hw3
        have O3 := hid (hD.out.below hbb)
        have W3 := hid (hW.out.call hbb (Nat.le_trans HC.out.room W0.out.size))
        clear hbb hw3 k1 k2 hD
        go_wp2
        exact ⟨⟨h + 1, j, by go_num, rfl, by omega, by omega, hjm, hI2, hJ, O3, W3⟩, by simp [intOf]; omega⟩
    · have hi : ¬ (i : Int) < (j : Int) := by omega
      obtain rfl : i = j := by omega
      obtain ⟨q, hq⟩ : ∃ q, q = i - a := ⟨_, rfl⟩
      have hqL : q ≤ L.length := by omega
      have hMg : Hid (Mg R (L ++ [r]) (L.take q ++ r :: L.drop q)) := by
        refine one_right (lt := ltC cf) tr.out hL.out hX.out hqL (fun u hp hu => hI.out u (by omega) ?_) (fun u hu => hJ.out u ?_)
        · rw [← hq]; exact hu
        · rw [← hq]; exact hu
      have D1 : Hid (Dat wr g ex (A ++ (L.take L.length ++ r :: (L.drop L.length ++ C)))) := by show Dat _ _ _ _; have := hD.out; simpa using this
      have hqi : a + q ≤ i ∧ i ≤ a + q := by omega
      clear hI hJ hD hq
      go_wp2
      go_loopw [17] (fun t wq => ∃ k y : Nat, q ≤ k ∧ k ≤ L.length ∧ y ≤ a + k ∧ a + k ≤ y ∧ t = .int .i64 y ∧ Hid (Dat wq g ex (A ++ (L.take k ++ r :: (L.drop k ++ C)))) ∧ Hid (Bes g B w wq)) (fun t _ => (intOf t).toNat)
      case atStart => exact ⟨L.length, m, hqL, Nat.le_refl _, by omega, by omega, rfl, D1, hW⟩
      case round =>
        obtain ⟨k, y, hk, hkL, hy1, hy2, rfl, hDk, hWk⟩ := hrel
        by_cases hkq : q < k
        · have hg1 : (i : Int) < (y : Int) := by omega
          obtain ⟨k0, rfl⟩ : ∃ k0, k = k0 + 1 := ⟨k - 1, by omega⟩
          have hkM : k0 < L.length := by omega
          obtain ⟨u, hu⟩ : ∃ u, u = L[k0] := ⟨_, rfl⟩
          have hdk : Dat wr g ex ((A ++ L.take k0) ++ u :: r :: (L.drop (k0 + 1) ++ C)) := by
            have h := hDk.out
            rw [takeSnoc hkM, ← hu] at h
            simpa only [List.append_assoc, List.cons_append, List.nil_append] using h
          obtain ⟨y0, hy0⟩ : ∃ y0, y0 = y - 1 := ⟨_, rfl⟩
          have hyl : (A ++ L.take k0).length = y0 := by have := ha.out; simp; omega
          obtain ⟨⟨c1, f1⟩, ⟨c2, f2⟩, d1, d2⟩ := dat_swap hdk hyl
          have e3 : (A ++ L.take k0) ++ r :: u :: (L.drop (k0 + 1) ++ C) = A ++ (L.take k0 ++ r :: (L.drop k0 ++ C)) := by
            rw [dropCons hkM, ← hu]; simp only [List.append_assoc, List.cons_append, List.nil_append]
          rw [e3] at d1 d2
          have hy01 : y0 + 1 = y := by omega
          rw [hy01] at c2 f2 d1 d2
          have b1 : (y : Int) < (N : Int) := by omega
          have b2 : (y0 : Int) < (N : Int) := by omega
          have b3 : y ≠ y0 := by omega
          have b4 : y0 ≠ y := by omega
          have q1 : y0 ≤ a + k0 ∧ a + k0 ≤ y0 ∧ y0 < y := by omega
          have DN := hid d2
          have e4 : IntKind.i64.wrap ((y : Int) - 1) = (y0 : Int) := by rw [IntKind.wrap_i64]; omega
          clear hdk hyl d1 d2 e3 hy0 hy01 hu hDk
          go_wp2
          go_big_region
          go_wp2
          exact ⟨⟨k0, y0, by omega, by omega, q1.1, q1.2.1, rfl, DN.out.drew1, ((hWk.out.set_ y _).set_ y0 _).drew1⟩, by simp [intOf]; omega⟩
        · have hg1 : ¬ (i : Int) < (y : Int) := by omega
          obtain rfl : k = q := by omega
          have hfin : Hid (Dat wr g ex (A ++ ((L.take k ++ r :: L.drop k) ++ C))) := by show Dat _ _ _ _; have := hDk.out; simpa using this
          clear hDk
          go_wp2
          go_end0
          exact ⟨_, rfl, hMg.out, hfin.out, hWk.out⟩
end Go.Proofs.Ytbodfepfapjikaa
