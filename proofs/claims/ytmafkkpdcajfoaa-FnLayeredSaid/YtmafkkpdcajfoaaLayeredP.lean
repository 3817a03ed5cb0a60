/-
  Layers into which some keys were put: each tells at least how often; heavy keys are found. No program in sight.
-/
import Derived.Test.YtmafkkpdcajfoaaHeavyP
import Derived.Test.YtmafkkpdcajfoaaPutLP
import Derived.Test.YtmafkkpdcajfoaaAsc
namespace Go.Proofs.Ytmafkkpdcajfoaa
open Go.RowKit
set_option linter.unusedVariables false

theorem addAt_cons (d : Int) (x : List Int) (p : Int) (l : List Int) : addAt d x (p :: l) = addAt d (x.set p.toNat (x.getD p.toNat 0 + d)) l := rfl
theorem set_getD (x : List Int) (i m : Nat) (v : Int) : (x.set i v).getD m 0 = if i = m ∧ m < x.length then v else x.getD m 0 := by
  rw [List.getD_eq_getElem?_getD, List.getD_eq_getElem?_getD, List.getElem?_set]
  by_cases h : i = m
  · subst h
    by_cases h2 : i < x.length
    · simp [h2]
    · simp [h2]
  · simp [h]
/-- What 1 at each of some places makes of a value. -/
theorem addAt_one (l : List Int) : ∀ (x : List Int) (m : Nat), m < x.length → x.getD m 0 ≤ (addAt 1 x l).getD m 0 ∧ (addAt 1 x l).getD m 0 ≤ x.getD m 0 + (l.length : Int) ∧ ((m : Int) ∈ l → x.getD m 0 + 1 ≤ (addAt 1 x l).getD m 0) := by
  induction l with
  | nil => intro x m hm; simp [addAt]
  | cons p l ih =>
    intro x m hm
    rw [addAt_cons]
    obtain ⟨h1, h2, h3⟩ := ih (x.set p.toNat (x.getD p.toNat 0 + 1)) m (by simpa using hm)
    rw [set_getD] at h1 h2 h3
    by_cases h : p.toNat = m
    · rw [if_pos ⟨h, hm⟩, h] at h1 h2 h3
      rw [h]
      simp only [List.length_cons]
      push_cast
      refine ⟨by omega, by omega, fun _ => by omega⟩
    · rw [if_neg (fun hh => h hh.1)] at h1 h2 h3
      simp only [List.length_cons]
      push_cast
      refine ⟨by omega, by omega, fun hmem => ?_⟩
      rcases List.mem_cons.1 hmem with h4 | h4
      · exfalso; omega
      · exact h3 h4
/-- Layer j. -/
def layF (a0 a1 a2 : Nat) (X : Nat → List Int) (j : Nat) : Int × Int × Int × List Int := ((a0 : Int), (a1 : Int), ((a2 : Int) + 100 * (j : Int)) % 4294967296, X j)
def layersF (a0 a1 a2 : Nat) (X : Nat → List Int) : List (Int × Int × Int × List Int) := (List.range 8).map (layF a0 a1 a2 X)
/-- Layer j's salt. -/
def saltF (a2 j : Nat) : Nat := (((a2 : Int) + 100 * (j : Int)) % 4294967296).toNat
/-- How many keys have a prefix. -/
def preN (ks : List Int) (j k : Nat) : Nat := ks.countP fun y => y / 2 ^ (28 - 4 * j) == (k : Int)
/-- What holds of layers into which the keys ks were put. -/
structure LayGood (a0 a1 a2 : Nat) (ks : List Int) (X : Nat → List Int) : Prop where
  len : ∀ j, j < 8 → (X j).length = a0 * a1
  bd : ∀ j, j < 8 → ∀ m, m < a0 * a1 → 0 ≤ (X j).getD m 0 ∧ (X j).getD m 0 ≤ 6 * (ks.length : Int)
  ge : ∀ j, j < 8 → ∀ k : Nat, ∀ m : Nat, (m : Int) ∈ cellsL a0 (saltF a2 j) k a1 → (preN ks j k : Int) ≤ (X j).getD m 0
theorem mem_getD {x : List Int} {y : Int} (h : y ∈ x) : ∃ m, m < x.length ∧ x.getD m 0 = y := by
  obtain ⟨m, hm⟩ := List.getElem?_of_mem h
  exact ⟨m, (List.getElem?_eq_some_iff.1 hm).1, by rw [List.getD_eq_getElem?_getD, hm]; rfl⟩
theorem vCells_mk {a0 a1 a2 : Int} {x : List Int} (h0 : 2 ≤ a0 ∧ a0 ≤ 64) (h1 : 1 ≤ a1 ∧ a1 ≤ 6) (h2 : 0 ≤ a2 ∧ a2 ≤ 4294967295) (hl : (x.length : Int) = a0 * a1) (hb : ∀ y ∈ x, -1000000000000 ≤ y ∧ y ≤ 1000000000000) : vCells a0 a1 a2 x = true := by
  simp only [vCells, Bool.and_eq_true, decide_eq_true_eq, inB_iff]
  refine ⟨⟨⟨⟨h0, h1⟩, h2⟩, hl⟩, ?_⟩
  unfold allB
  rw [List.all_eq_true]
  intro y hy
  have := hb y hy
  exact inB_iff.2 this
theorem salt_bd (a2 j : Nat) : 0 ≤ ((a2 : Int) + 100 * (j : Int)) % 4294967296 ∧ ((a2 : Int) + 100 * (j : Int)) % 4294967296 ≤ 4294967295 := by omega
theorem good_valid {a0 a1 a2 : Nat} {ks : List Int} {X : Nat → List Int} (h0 : 2 ≤ a0 ∧ a0 ≤ 64) (h1 : 1 ≤ a1 ∧ a1 ≤ 6) (hk : ks.length ≤ 1000) (h : LayGood a0 a1 a2 ks X) {j : Nat} (hj : j < 8) : vCells (layF a0 a1 a2 X j).1 (layF a0 a1 a2 X j).2.1 (layF a0 a1 a2 X j).2.2.1 (layF a0 a1 a2 X j).2.2.2 = true := by
  refine vCells_mk (by simp [layF]; omega) (by simp [layF]; omega) (salt_bd a2 j) (by simp [layF, h.len j hj]) fun y hy => ?_
  obtain ⟨m, hm, rfl⟩ := mem_getD (x := X j) hy
  have := h.bd j hj m (by rw [← h.len j hj]; exact hm)
  omega
theorem good_vLay {a0 a1 a2 : Nat} {ks : List Int} {X : Nat → List Int} (h0 : 2 ≤ a0 ∧ a0 ≤ 64) (h1 : 1 ≤ a1 ∧ a1 ≤ 6) (ha : a2 < 4294967296) (hk : ks.length ≤ 1000) (h : LayGood a0 a1 a2 ks X) : vLayP (layersF a0 a1 a2 X) = true := by
  simp only [vLayP, layersF, Bool.and_eq_true, beq_iff_eq, List.length_map, List.length_range, List.all_eq_true, List.mem_range, true_and]
  intro j hj
  have e0 : ((List.range 8).map (layF a0 a1 a2 X))[0]? = some (layF a0 a1 a2 X 0) := by simp
  have ej : ((List.range 8).map (layF a0 a1 a2 X))[j]? = some (layF a0 a1 a2 X j) := by simp [hj]
  unfold okG
  rw [e0, ej]
  simp only [okP, good_valid h0 h1 hk h hj, Bool.true_and, Bool.and_eq_true, beq_iff_eq]
  simp only [layF, true_and]
  simp
/-- One key, put into one layer. -/
def putX (a0 a1 a2 : Nat) (X : Nat → List Int) (key : Nat) (j : Nat) : List Int := addAt 1 (X j) (cellsL a0 (saltF a2 j) (key / 2 ^ (28 - 4 * j)) a1)
theorem good_put {a0 a1 a2 : Nat} {ks : List Int} {X : Nat → List Int} {key : Nat} (h0 : 2 ≤ a0) (h1 : a1 ≤ 6) (h : LayGood a0 a1 a2 ks X) : LayGood a0 a1 a2 (ks ++ [(key : Int)]) (putX a0 a1 a2 X key) := by
  refine ⟨fun j hj => by rw [putX, addAt_length]; exact h.len j hj, fun j hj m hm => ?_, fun j hj k m hm => ?_⟩
  · obtain ⟨q1, q2, q3⟩ := addAt_one (cellsL a0 (saltF a2 j) (key / 2 ^ (28 - 4 * j)) a1) (X j) m (by rw [h.len j hj]; exact hm)
    have := h.bd j hj m hm
    rw [cellsL_length] at q2
    simp only [putX, List.length_append, List.length_cons, List.length_nil]
    push_cast
    omega
  · have hml : m < a0 * a1 := by
      obtain ⟨m', e, hm'⟩ := cellsL_mem (by omega) hm
      have : m = m' := by omega
      omega
    obtain ⟨q1, q2, q3⟩ := addAt_one (cellsL a0 (saltF a2 j) (key / 2 ^ (28 - 4 * j)) a1) (X j) m (by rw [h.len j hj]; exact hml)
    have hg := h.ge j hj k m hm
    have hc : preN (ks ++ [(key : Int)]) j k = preN ks j k + (if (key : Int) / 2 ^ (28 - 4 * j) == (k : Int) then 1 else 0) := by
      simp [preN, List.countP_append, List.countP_cons]
    show _ ≤ (addAt 1 (X j) _).getD m 0
    rw [hc]
    by_cases he : ((key : Int) / 2 ^ (28 - 4 * j) == (k : Int)) = true
    · rw [if_pos he]
      have e1 : key / 2 ^ (28 - 4 * j) = k := by
        have := beq_iff_eq.1 he
        have e2 : ((key / 2 ^ (28 - 4 * j) : Nat) : Int) = (key : Int) / 2 ^ (28 - 4 * j) := by push_cast; rfl
        omega
      rw [e1] at q3 ⊢
      have := q3 hm
      push_cast
      omega
    · rw [if_neg he]
      push_cast
      omega
theorem good_new {a0 a1 a2 : Nat} : LayGood a0 a1 a2 [] (fun _ => List.replicate (a0 * a1) 0) := by
  refine ⟨fun j _ => by simp, fun j _ m hm => ?_, fun j _ k m _ => ?_⟩
  · rw [List.getD_eq_getElem?_getD, List.getElem?_replicate]
    simp [hm]
  · simp only [preN, List.countP_nil]
    rw [List.getD_eq_getElem?_getD, List.getElem?_replicate]
    split <;> simp
theorem new_layers {a0 a1 a2 : Nat} (h0 : 2 ≤ a0 ∧ a0 ≤ 64) (h1 : 1 ≤ a1 ∧ a1 ≤ 6) (ha : a2 < 4294967296) : pNewLayers (a0 : Int) (a1 : Int) (a2 : Int) = (layersF a0 a1 a2 (fun _ => List.replicate (a0 * a1) 0), true) := by
  have hs : sidesB (a0 : Int) (a1 : Int) (a2 : Int) = true := by
    simp only [sidesB, Bool.and_eq_true, inB_iff]
    omega
  rw [pNewLayers, if_pos hs]
  have e : ((a0 : Int) * (a1 : Int)).toNat = a0 * a1 := by rw [← Int.natCast_mul]; rfl
  rw [e]
  rfl
theorem put_layers {a0 a1 a2 : Nat} {ks : List Int} {X : Nat → List Int} {key : Nat} (h0 : 2 ≤ a0 ∧ a0 ≤ 64) (h1 : 1 ≤ a1 ∧ a1 ≤ 6) (ha : a2 < 4294967296) (hk : ks.length < 1000) (hkey : key < 4294967296) (h : LayGood a0 a1 a2 ks X) : pPutLayers (layersF a0 a1 a2 X) (key : Int) 1 = (layersF a0 a1 a2 (putX a0 a1 a2 X key), true) := by
  have hg := good_put (key := key) h0.1 h1.2 h
  have hstep : ∀ n, n ≤ 8 → putN (layersF a0 a1 a2 X) (key : Int) 1 n = some ((List.range n).map (layF a0 a1 a2 (putX a0 a1 a2 X key))) := by
    intro n
    induction n with
    | zero => intro _; rfl
    | succ n ih =>
      intro hn
      have hq : (layersF a0 a1 a2 X)[n]? = some (layF a0 a1 a2 X n) := by simp [layersF, show n < 8 by omega]
      have hp : putQ (layF a0 a1 a2 X n) ((key : Int) / 2 ^ (28 - 4 * n)) 1 = some (layF a0 a1 a2 (putX a0 a1 a2 X key) n) := by
        have hv := good_valid h0 h1 (ks := ks ++ [(key : Int)]) (by simp; omega) hg (show n < 8 by omega)
        have e2 : ((key : Int) / 2 ^ (28 - 4 * n)).toNat = key / 2 ^ (28 - 4 * n) := by
          have e3 : ((key / 2 ^ (28 - 4 * n) : Nat) : Int) = (key : Int) / 2 ^ (28 - 4 * n) := by push_cast; rfl
          rw [← e3]; rfl
        unfold putQ
        have e4 : addAt 1 (layF a0 a1 a2 X n).2.2.2 (cellsL (layF a0 a1 a2 X n).1.toNat (layF a0 a1 a2 X n).2.2.1.toNat ((key : Int) / 2 ^ (28 - 4 * n)).toNat (layF a0 a1 a2 X n).2.1.toNat) = putX a0 a1 a2 X key n := by
          rw [e2]; rfl
        have hv' : vCells (layF a0 a1 a2 X n).1 (layF a0 a1 a2 X n).2.1 (layF a0 a1 a2 X n).2.2.1 (putX a0 a1 a2 X key n) = true := hv
        rw [e4, if_pos hv']
        rfl
      rw [putN_yes (ih (by omega)) hq hp, List.range_succ, List.map_append]
      rfl
  have hv := good_vLay h0 h1 ha (by omega) h
  have hkb : inB (key : Int) 0 4294967295 = true := inB_iff.2 (by omega)
  rw [pPutLayers, hv, hkb, hstep 8 (by omega)]
  rfl
/-- The least of some numbers that are all at least z. -/
theorem minAt_ge {x : List Int} {z : Int} (l : List Int) : ∀ M : Int, z ≤ M → (∀ p ∈ l, z ≤ x.getD p.toNat 0) → z ≤ minAtM M x l := by
  induction l with
  | nil => intro M h _; exact h
  | cons p l ih =>
    intro M h hl
    show z ≤ minAtM (min M (x.getD p.toNat 0)) x l
    refine ih _ ?_ fun q hq => hl q (List.mem_cons_of_mem _ hq)
    have := hl p List.mem_cons_self
    omega
theorem partH_nodup (q : Int × Int × Int × List Int) (least p : Int) (n : Nat) : (partH q least p n).Nodup := by
  induction n with
  | zero => simp [partH]
  | succ n ih =>
    by_cases h : least ≤ atP q (16 * p + (n : Int))
    · rw [partH_yes h]
      refine List.nodup_append.2 ⟨ih, by simp, fun a ha b hb => ?_⟩
      have := partH_mem ha
      simp at hb
      omega
    · rw [partH_no h]; exact ih
theorem stepH_nodup (q : Int × Int × Int × List Int) (least : Int) {now : List Int} (h : now.Nodup) : (stepH q least now).Nodup := by
  induction now with
  | nil => simp [stepH]
  | cons p now ih =>
    obtain ⟨h1, h2⟩ := List.nodup_cons.1 h
    simp only [stepH, List.flatMap_cons] at ih ⊢
    refine List.nodup_append.2 ⟨partH_nodup _ _ _ _, ih h2, fun a ha b hb hab => ?_⟩
    subst hab
    obtain ⟨p', hp', hb'⟩ := List.mem_flatMap.1 hb
    have e1 := partH_mem ha
    have e2 := partH_mem hb'
    have : p = p' := by omega
    subst this
    exact h1 hp'
theorem div_step {key j : Nat} (hj : j < 8) : key / 2 ^ (28 - 4 * j) = 16 * (key / 2 ^ (32 - 4 * j)) + key / 2 ^ (28 - 4 * j) % 16 := by
  have h1 : key / 2 ^ (32 - 4 * j) = key / 2 ^ (28 - 4 * j) / 16 := by
    rw [Nat.div_div_eq_div_mul, show (16 : Nat) = 2 ^ 4 by decide, ← Nat.pow_add, show 28 - 4 * j + 4 = 32 - 4 * j by omega]
  rw [h1]
  omega
theorem count_pre (ks : List Int) (j key : Nat) : ks.count (key : Int) ≤ preN ks j (key / 2 ^ (28 - 4 * j)) := by
  unfold preN
  rw [List.count_eq_countP]
  refine List.countP_mono_left fun y _ hy => ?_
  have e := beq_iff_eq.1 hy
  subst e
  rw [beq_iff_eq]
  push_cast
  rfl
/-- Heavy keys go on from layer to layer. -/
theorem heavy_all {a0 a1 a2 : Nat} {ks : List Int} {X : Nat → List Int} {least : Int} (hl : least ≤ 1000000000000) (h : LayGood a0 a1 a2 ks X) : ∀ (n j : Nat) (now hv : List Int), n + j = 8 → heavyP least ((layersF a0 a1 a2 X).drop j) now = some hv → now.Nodup → (∀ key : Nat, least ≤ (ks.count (key : Int) : Int) → ((key / 2 ^ (32 - 4 * j) : Nat) : Int) ∈ now) → hv.Nodup ∧ ∀ key : Nat, least ≤ (ks.count (key : Int) : Int) → (key : Int) ∈ hv := by
  intro n
  induction n with
  | zero =>
    intro j now hv hnj he hn hm
    obtain rfl : j = 8 := by omega
    rw [List.drop_of_length_le (by simp [layersF])] at he
    injection he with he
    subst he
    exact ⟨hn, fun key hk => by simpa using hm key hk⟩
  | succ n ih =>
    intro j now hv hnj he hn hm
    have hq : (layersF a0 a1 a2 X)[j]? = some (layF a0 a1 a2 X j) := by simp [layersF, show j < 8 by omega]
    rw [heavyP_step hq] at he
    split at he
    · cases he
    · refine ih (j + 1) _ hv (by omega) he (stepH_nodup _ _ hn) fun key hk => ?_
      have h1 := hm key hk
      rw [show 32 - 4 * (j + 1) = 28 - 4 * j by omega]
      have hat : least ≤ atP (layF a0 a1 a2 X j) ((key / 2 ^ (28 - 4 * j) : Nat) : Int) := by
        unfold atP
        refine minAt_ge _ _ hl fun p hp => ?_
        have hp' : p ∈ cellsL a0 (saltF a2 j) (key / 2 ^ (28 - 4 * j)) a1 := hp
        obtain ⟨m, hm'⟩ : ∃ m : Nat, p = (m : Int) := by
          simp only [cellsL, List.mem_map, List.mem_range] at hp'
          obtain ⟨i, _, rfl⟩ := hp'
          exact ⟨_, rfl⟩
        subst hm'
        have h2 := h.ge j (by omega) _ m hp'
        have h3 := count_pre ks j key
        show least ≤ (X j).getD _ 0
        rw [Int.toNat_natCast]
        omega
      unfold stepH
      refine List.mem_flatMap.2 ⟨_, h1, ?_⟩
      unfold partH
      refine List.mem_filter.2 ⟨List.mem_map.2 ⟨key / 2 ^ (28 - 4 * j) % 16, List.mem_range.2 (Nat.mod_lt _ (by omega)), ?_⟩, decide_eq_true hat⟩
      have := div_step (key := key) (show j < 8 by omega)
      omega
theorem heavy_found {a0 a1 a2 : Nat} {ks : List Int} {X : Nat → List Int} {least : Int} {hv : List Int} (hl : least ≤ 1000000000000) (h : LayGood a0 a1 a2 ks X) (he : heavyP least (layersF a0 a1 a2 X) [0] = some hv) {key : Nat} (hkey : key < 4294967296) (hlt : ∀ y ∈ ks, 0 ≤ y ∧ y < 4294967296) (h1 : 1 ≤ least) (hk : least ≤ (ks.count (key : Int) : Int)) : hv.count (key : Int) = 1 := by
  obtain ⟨h2, h3⟩ := heavy_all hl h 8 0 [0] hv rfl (by simpa using he) (by simp) fun z hz => by
    have hz' : (z : Int) ∈ ks := List.count_pos_iff.1 (by omega)
    have := hlt _ hz'
    have e : z / 2 ^ (32 - 4 * 0) = 0 := Nat.div_eq_of_lt (by omega)
    rw [e]; simp
  have := h3 key hk
  have c1 := List.count_pos_iff.2 this
  have c2 := List.nodup_iff_count.1 h2 (key : Int)
  omega
/-- How often, summed over all that are different. -/
theorem sum_counts (d : List Int) (hd : d.Nodup) : ∀ l : List Int, (∀ y ∈ l, y ∈ d) → (cnts d l).sum = (l.length : Int) := by
  intro l
  induction l with
  | nil =>
    intro _
    rw [cnts_nil]
    clear hd
    induction d with
    | nil => rfl
    | cons a d ih => simp [List.replicate_succ]
  | cons a l ih =>
    intro h
    have h1 := ih fun y hy => h y (List.mem_cons_of_mem _ hy)
    have h2 : ∀ d : List Int, d.Nodup → (cnts d (a :: l)).sum = (cnts d l).sum + (d.count a : Int) := by
      intro d
      induction d with
      | nil => intro _; rfl
      | cons b d ih2 =>
        intro hn
        obtain ⟨n1, n2⟩ := List.nodup_cons.1 hn
        have := ih2 n2
        simp only [cnts, List.map_cons, List.sum_cons, List.count_cons] at this ⊢
        rw [this]
        by_cases hab : (a == b) = true
        · have hba : (b == a) = true := by rw [beq_iff_eq] at hab ⊢; exact hab.symm
          rw [if_pos hab, if_pos hba]; push_cast; omega
        · have hba : ¬ (b == a) = true := by rw [beq_iff_eq] at hab ⊢; exact fun e => hab e.symm
          rw [if_neg hab, if_neg hba]; push_cast; omega
    rw [h2 d hd, h1]
    have c1 := List.count_pos_iff.2 (h a List.mem_cons_self)
    have c2 := List.nodup_iff_count.1 hd a
    simp only [List.length_cons]
    omega
end Go.Proofs.Ytmafkkpdcajfoaa
