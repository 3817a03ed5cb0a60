/-
  The keys of the words of a text: plain. No program in sight.
-/
import Derived.Lib.SplitLaws
namespace Go.Proofs.YtbodfepfapjikaaDoor

/-- The key of a text. -/
def keyT (l : List UInt8) : Nat := l.foldl (fun h c => ((h ^^^ c.toNat) * 16777619) % 4294967296) 2166136261
theorem keyT_nil : keyT [] = 2166136261 := by rw [keyT, List.foldl_nil]
theorem keyT_snoc (l : List UInt8) (c : UInt8) : keyT (l ++ [c]) = ((keyT l ^^^ c.toNat) * 16777619) % 4294967296 := by
  unfold keyT
  rw [List.foldl_append, List.foldl_cons, List.foldl_nil]
theorem keyT_lt (l : List UInt8) : keyT l < 4294967296 := by
  rcases List.eq_nil_or_concat l with rfl | ⟨l, c, rfl⟩
  · rw [keyT_nil]; omega
  · rw [List.concat_eq_append, keyT_snoc]
    exact Nat.mod_lt _ (by omega)
/-- The pieces between blanks. -/
def pcs : List UInt8 → List (List UInt8)
  | [] => [[]]
  | c :: r => if c = 32 then [] :: pcs r else match pcs r with
    | [] => [[c]]
    | p :: ps => (c :: p) :: ps
theorem pcs_ne (l : List UInt8) : pcs l ≠ [] := by
  cases l with
  | nil => simp [pcs]
  | cons c r =>
    unfold pcs
    split
    · simp
    · split <;> simp
theorem pcs_blank (r : List UInt8) : pcs (32 :: r) = [] :: pcs r := by rw [pcs, if_pos rfl]
theorem pcs_other {c : UInt8} (r : List UInt8) (h : c ≠ 32) : ∃ p ps, pcs r = p :: ps ∧ pcs (c :: r) = (c :: p) :: ps := by
  cases hr : pcs r with
  | nil => exact absurd hr (pcs_ne r)
  | cons p ps => exact ⟨p, ps, rfl, by rw [pcs, if_neg h, hr]⟩
/-- A piece, and what stands behind the blank. -/
theorem pcs_cut : ∀ (n : Nat) (t : List UInt8), (∀ j c, j < n → t[j]? = some c → c ≠ 32) → t[n]? = some 32 → pcs t = t.take n :: pcs (t.drop (n + 1))
  | 0, [], _, h => by simp at h
  | 0, c :: r, _, h => by
    simp at h
    subst h
    rw [pcs_blank]; rfl
  | n + 1, [], _, h => by simp at h
  | n + 1, c :: r, ha, h => by
    have hc : c ≠ 32 := ha 0 c (by omega) rfl
    have ih := pcs_cut n r (fun j c hj hjc => ha (j + 1) c (by omega) (by simpa using hjc)) (by simpa using h)
    obtain ⟨p, ps, e1, e2⟩ := pcs_other r hc
    rw [e2]
    rw [ih] at e1
    injection e1 with e1 e3
    subst e1; subst e3
    rfl
theorem pcs_last : ∀ (t : List UInt8), (∀ (j : Nat) (c : UInt8), t[j]? = some c → c ≠ 32) → pcs t = [t]
  | [], _ => rfl
  | c :: r, ha => by
    have hc : c ≠ 32 := ha 0 c rfl
    have ih := pcs_last r (fun j c hjc => ha (j + 1) c (by simpa using hjc))
    obtain ⟨p, ps, e1, e2⟩ := pcs_other r hc
    rw [e2]
    rw [ih] at e1
    injection e1 with e1 e3
    subst e1; subst e3
    rfl
theorem pcs_length (t : List UInt8) : (pcs t).length = t.count 32 + 1 := by
  induction t with
  | nil => rfl
  | cons c r ih =>
    by_cases h : c = 32
    · subst h; rw [pcs_blank, List.length_cons, ih, List.count_cons_self]
    · obtain ⟨p, ps, e1, e2⟩ := pcs_other r h
      rw [e2, List.length_cons, List.count_cons_of_ne (by simpa using h), ← ih, e1, List.length_cons]
/-- The library's pieces are these. -/
theorem split_pcs : ∀ (s : List UInt8) (k : Nat), Go.Lib.count s [32] ≤ k → Go.Lib.splitK [32] 0 k s = pcs s
  | [], k, _ => by
    cases k with
    | zero => rfl
    | succ k => simp [Go.Lib.splitK, Go.Lib.index, pcs]
  | b :: l, k, hk => by
    by_cases hb : b = 32
    · subst hb
      rw [Go.Lib.count_cons_eq] at hk
      obtain ⟨k, rfl⟩ : ∃ j, k = j + 1 := ⟨k - 1, by omega⟩
      have hix : Go.Lib.index (32 :: l) [32] = 0 := by rw [Go.Lib.index]; simp [List.isPrefixOf]
      rw [pcs_blank, ← split_pcs l k (by omega), Go.Lib.splitK, hix]
      simp
    · rw [Go.Lib.count_cons_ne b 32 l hb] at hk
      have ih := split_pcs l k hk
      have hp : ([32] : List UInt8).isPrefixOf (b :: l) = false := by simp [List.isPrefixOf, Ne.symm hb]
      have hix : Go.Lib.index (b :: l) [32] = if Go.Lib.index l [32] == -1 then -1 else Go.Lib.index l [32] + 1 := by rw [Go.Lib.index, hp]; simp
      obtain ⟨p, ps, e1, e2⟩ := pcs_other l hb
      rw [e2]
      rw [e1] at ih
      cases k with
      | zero =>
        rw [Go.Lib.splitK] at ih ⊢
        injection ih with h1 h2
        rw [h1, h2]
      | succ k =>
        by_cases hm : Go.Lib.index l [32] = -1
        · rw [Go.Lib.splitK, if_pos (beq_iff_eq.2 hm)] at ih
          rw [Go.Lib.splitK, hix, if_pos (beq_iff_eq.2 hm), if_pos (by rfl)]
          injection ih with h1 h2
          rw [h1, h2]
        · have hge := Go.Lib.index_ge l [32]
          obtain ⟨j, hj⟩ : ∃ j : Nat, Go.Lib.index l [32] = j := ⟨(Go.Lib.index l [32]).toNat, by omega⟩
          rw [Go.Lib.splitK, if_neg (fun e => hm (beq_iff_eq.1 e)), hj] at ih
          rw [Go.Lib.splitK, hix, if_neg (fun e => hm (beq_iff_eq.1 e)), hj, if_neg (fun e => by have := beq_iff_eq.1 e; omega)]
          have e3 : ((j : Int) + 1).toNat = j + 1 := by omega
          rw [e3]
          simp only [Int.toNat_natCast, Nat.add_zero, List.length_cons, List.length_nil, Nat.zero_add, List.take_succ_cons, List.drop_succ_cons] at ih ⊢
          injection ih with h1 h2
          rw [h1, h2]
/-- The keys of the pieces that are not empty. -/
def keysW (l : List (List UInt8)) : List Int := (l.filter fun p => !p.isEmpty).map fun p => (keyT p : Int)
def keysT (t : List UInt8) : List Int := keysW (pcs t)
theorem keysW_nil : keysW [] = [] := rfl
theorem keysW_snoc_no {l : List (List UInt8)} {p : List UInt8} (h : p.isEmpty = true) : keysW (l ++ [p]) = keysW l := by
  unfold keysW
  rw [List.filter_append]
  simp [h]
theorem keysW_snoc {l : List (List UInt8)} {p : List UInt8} (h : p.isEmpty = false) : keysW (l ++ [p]) = keysW l ++ [(keyT p : Int)] := by
  unfold keysW
  rw [List.filter_append, List.map_append]
  simp [h]
theorem keysW_cons_no {l : List (List UInt8)} {p : List UInt8} (h : p.isEmpty = true) : keysW (p :: l) = keysW l := by
  unfold keysW
  simp [h]
theorem keysW_cons {l : List (List UInt8)} {p : List UInt8} (h : p.isEmpty = false) : keysW (p :: l) = (keyT p : Int) :: keysW l := by
  unfold keysW
  simp [h]
theorem keysW_le (l : List (List UInt8)) : (keysW l).length ≤ l.length := by
  unfold keysW
  rw [List.length_map]
  exact List.length_filter_le _ _
theorem keysW_bd (l : List (List UInt8)) : ∀ y ∈ keysW l, 0 ≤ y ∧ y ≤ 4294967295 := by
  intro y hy
  unfold keysW at hy
  obtain ⟨p, _, rfl⟩ := List.mem_map.1 hy
  have := keyT_lt p
  omega
theorem keysT_le (t : List UInt8) : (keysT t).length ≤ t.length + 1 := by
  have h1 := keysW_le (pcs t)
  rw [pcs_length] at h1
  have := List.count_le_length (a := (32 : UInt8)) (l := t)
  unfold keysT
  omega
/-- What KeysOfText answers. -/
def pKeysOfText (t : List UInt8) : List Int × Bool := if (keysT t).length ≤ 256 then (keysT t, true) else ([], false)
/-- What the reference's loop has made, ahead of place i, of the words that end ahead of place f. -/
def KRel (L : List UInt8) (i f : Nat) (xs : List Int) : Prop :=
  (i ≤ L.length ∧ f ≤ i ∧ keysT L = xs ++ keysT (L.drop f) ∧ ∀ j c, j < i - f → (L.drop f)[j]? = some c → c ≠ 32) ∨ (i = L.length + 1 ∧ f = i ∧ keysT L = xs)
theorem KRel.start (L : List UInt8) : KRel L 0 0 [] := .inl ⟨Nat.zero_le _, Nat.le_refl _, by simp, fun j c h => by omega⟩
theorem KRel.next {L : List UInt8} {i f : Nat} {xs : List Int} (h : KRel L i f xs) {c : UInt8} (hc : L[i]? = some c) (hne : c ≠ 32) : KRel L (i + 1) f xs := by
  have hlt : i < L.length := (List.getElem?_eq_some_iff.1 hc).1
  rcases h with ⟨h1, h2, h3, h4⟩ | ⟨h1, h2, h3⟩
  · refine .inl ⟨hlt, by omega, h3, fun j d hj hd => ?_⟩
    rcases Nat.lt_or_ge j (i - f) with hlt2 | hge
    · exact h4 j d hlt2 hd
    · rw [List.getElem?_drop, show f + j = i by omega, hc] at hd
      injection hd with hd
      rw [← hd]; exact hne
  · omega
theorem KRel.le {L : List UInt8} {i f : Nat} {xs : List Int} (h : KRel L i f xs) : f ≤ i := by
  rcases h with ⟨h1, h2, h3, h4⟩ | ⟨h1, h2, h3⟩ <;> omega
theorem keysW_append (a b : List (List UInt8)) : keysW (a ++ b) = keysW a ++ keysW b := by
  unfold keysW
  rw [List.filter_append, List.map_append]
theorem KRel.stop {L : List UInt8} {i f : Nat} {xs : List Int} (h : KRel L i f xs) (hi : i ≤ L.length) (hc : i < L.length → L[i]? = some 32) : KRel L (i + 1) (i + 1) (xs ++ keysW [(L.drop f).take (i - f)]) := by
  rcases h with ⟨h1, h2, h3, h4⟩ | ⟨h1, h2, h3⟩
  · rcases Nat.lt_or_ge i L.length with hlt | hge
    · refine .inl ⟨hlt, Nat.le_refl _, ?_, fun j d hj => by omega⟩
      have hcut := pcs_cut (i - f) (L.drop f) h4 (by rw [List.getElem?_drop, show f + (i - f) = i by omega]; exact hc hlt)
      have e : keysT (L.drop f) = keysW [(L.drop f).take (i - f)] ++ keysT (L.drop (i + 1)) := by
        unfold keysT
        rw [hcut, List.drop_drop, show f + (i - f + 1) = i + 1 by omega, ← List.singleton_append, keysW_append]
      rw [h3, e, List.append_assoc]
    · obtain rfl : i = L.length := by omega
      refine .inr ⟨rfl, rfl, ?_⟩
      have hl := pcs_last (L.drop f) (fun j c hj => h4 j c (by have := (List.getElem?_eq_some_iff.1 hj).1; simp at this; omega) hj)
      have e : (L.drop f).take (L.length - f) = L.drop f := List.take_of_length_le (by simp)
      rw [h3, e]
      unfold keysT
      rw [hl]
  · omega
theorem KRel.done {L : List UInt8} {i f : Nat} {xs : List Int} (h : KRel L i f xs) (hi : ¬ i ≤ L.length) : keysT L = xs := by
  rcases h with ⟨h1, h2, h3, h4⟩ | ⟨h1, h2, h3⟩
  · omega
  · exact h3
theorem keysW_one {p : List UInt8} (h : p ≠ []) : keysW [p] = [(keyT p : Int)] := by
  have := keysW_snoc (l := []) (p := p) (by cases p <;> simp_all)
  simpa [keysW_nil] using this
theorem keysW_none : keysW [[]] = [] := by
  have := keysW_snoc_no (l := []) (p := ([] : List UInt8)) rfl
  simpa [keysW_nil] using this
theorem pcs_mem_le : ∀ (t p : List UInt8), p ∈ pcs t → p.length ≤ t.length
  | [], p, h => by simp [pcs] at h; subst h; simp
  | c :: r, p, h => by
    by_cases hc : c = 32
    · subst hc
      rw [pcs_blank] at h
      rcases List.mem_cons.1 h with rfl | h
      · simp
      · have := pcs_mem_le r p h; simp; omega
    · obtain ⟨q, qs, e1, e2⟩ := pcs_other r hc
      rw [e2] at h
      have h1 := pcs_mem_le r
      rw [e1] at h1
      rcases List.mem_cons.1 h with rfl | h
      · have := h1 q (by simp); simp; omega
      · have := h1 p (by simp [h]); simp; omega
theorem keysW_take_le (l : List (List UInt8)) (k : Nat) : (keysW (l.take k)).length ≤ (keysW l).length := by
  have := keysW_append (l.take k) (l.drop k)
  rw [List.take_append_drop] at this
  rw [this, List.length_append]
  omega
end Go.Proofs.YtbodfepfapjikaaDoor
