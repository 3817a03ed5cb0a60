/-
  Signed cells, plain: what is put adds up, a single key is told, its norm is a square, what is taken away leaves nothing. No program in sight.
-/
import Derived.Test.YtbodfepfapjikaaSignedAt
import Derived.Test.YtbodfepfapjikaaNorm
import Derived.Test.YtbodfepfapjikaaMergeCells
import Derived.Test.YtbodfepfapjikaaCorP
namespace Go.Proofs.Ytbodfepfapjikaa
open Go.RowKit
set_option linter.unusedVariables false

theorem ext_getD {x y : List Int} (hl : x.length = y.length) (h : ∀ j, j < x.length → x.getD j 0 = y.getD j 0) : x = y := by
  apply List.ext_getElem hl
  intro j h1 h2
  have := h j h1
  rwa [List.getD_eq_getElem?_getD, List.getD_eq_getElem?_getD, List.getElem?_eq_getElem h1, List.getElem?_eq_getElem h2] at this
theorem getD_set {x : List Int} {i j : Nat} {v : Int} (hj : j < x.length) : (x.set i v).getD j 0 = if i = j then v else x.getD j 0 := by
  rw [List.getD_eq_getElem?_getD, List.getD_eq_getElem?_getD, List.getElem?_set]
  by_cases h : i = j
  · subst h; simp [hj]
  · simp [h]
theorem getD_zeros (n j : Nat) : (List.replicate n (0 : Int)).getD j 0 = 0 := by
  rw [List.getD_eq_getElem?_getD, List.getElem?_replicate]
  split <;> rfl
theorem getD_mem {x : List Int} {j : Nat} (hj : j < x.length) : x.getD j 0 ∈ x := by
  rw [List.getD_eq_getElem?_getD, List.getElem?_eq_getElem hj]
  exact List.getElem_mem hj
/-- What the listed places add up to at place j. -/
def dE (l : List Int) (sg : Nat → Int) (j : Nat) : Nat → Int
  | 0 => 0
  | n + 1 => dE l sg j n + (if (l.getD n 0).toNat = j then sg n else 0)
theorem stepL_getD (key s : Nat) (by_ : Int) (x l : List Int) {j : Nat} (hj : j < x.length) : ∀ n, (stepL (fSig key s by_) x l n).getD j 0 = x.getD j 0 + by_ * dE l (fun k => signN key (saltN s (1000 + k))) j n
  | 0 => by simp [stepL, dE]
  | n + 1 => by
    have ih := stepL_getD key s by_ x l hj n
    rw [stepL, getD_set (by rw [stepL_length]; exact hj)]
    by_cases h : (l.getD n 0).toNat = j
    · rw [if_pos h, dE, if_pos h, h, ih]
      unfold fSig
      rw [Int.mul_add, Int.add_assoc]
    · rw [if_neg h, dE, if_neg h, ih, Int.add_zero]
theorem cellsL_getD {wd s key dp n : Nat} (h : n < dp) : ((cellsL wd s key dp).getD n 0).toNat = placeN wd s key n := by
  rw [List.getD_eq_getElem?_getD, cellsL_at' h]; rfl
theorem place_row {wd s key i : Nat} (hw : 0 < wd) : placeN wd s key i / wd = i := by
  unfold placeN
  have h1 := belowN_lt key (saltN s i) wd hw
  rw [Nat.mul_comm, Nat.mul_add_div hw, Nat.div_eq_of_lt h1, Nat.add_zero]
theorem dE_row {wd s key dp j : Nat} {sg : Nat → Int} (hw : 0 < wd) : ∀ n, n ≤ dp → dE (cellsL wd s key dp) sg j n = if j / wd < n ∧ placeN wd s key (j / wd) = j then sg (j / wd) else 0
  | 0, _ => by simp [dE]
  | n + 1, hn => by
    rw [dE, dE_row hw n (by omega), cellsL_getD (by omega)]
    by_cases h : placeN wd s key n = j
    · have hr : j / wd = n := by rw [← h]; exact place_row hw
      rw [if_pos h, hr, if_neg (by omega), if_pos ⟨by omega, h⟩, Int.zero_add]
    · rw [if_neg h, Int.add_zero]
      by_cases h2 : j / wd < n ∧ placeN wd s key (j / wd) = j
      · rw [if_pos h2, if_pos ⟨by omega, h2.2⟩]
      · rw [if_neg h2, if_neg]
        rintro ⟨h3, h4⟩
        have : j / wd = n := by
          rcases Nat.lt_or_ge (j / wd) n with h5 | h5
          · exact absurd ⟨h5, h4⟩ h2
          · omega
        rw [this] at h4
        exact h h4
/-- A key put to signed cells. -/
def putC (wd dp s : Nat) (x : List Int) (key : Nat) (by_ : Int) : List Int := stepL (fSig key s by_) x (cellsL wd s key dp) dp
theorem putC_length (wd dp s : Nat) (x : List Int) (key : Nat) (by_ : Int) : (putC wd dp s x key by_).length = x.length := stepL_length _ _ _ _
/-- What a key adds at place j. -/
def dK (wd dp s key j : Nat) : Int := dE (cellsL wd s key dp) (fun k => signN key (saltN s (1000 + k))) j dp
theorem putC_getD {wd dp s : Nat} {x : List Int} {key : Nat} {by_ : Int} {j : Nat} (hj : j < x.length) : (putC wd dp s x key by_).getD j 0 = x.getD j 0 + by_ * dK wd dp s key j := stepL_getD key s by_ x _ hj dp
theorem dK_eq {wd dp s key j : Nat} (hw : 0 < wd) : dK wd dp s key j = if j / wd < dp ∧ placeN wd s key (j / wd) = j then signN key (saltN s (1000 + j / wd)) else 0 := dE_row hw dp (Nat.le_refl _)
/-- What is taken away again leaves nothing. -/
theorem putC_back (wd dp s : Nat) (x : List Int) (key : Nat) (by_ : Int) : putC wd dp s (putC wd dp s x key by_) key (-by_) = x := by
  refine ext_getD (by rw [putC_length, putC_length]) fun j hj => ?_
  rw [putC_length, putC_length] at hj
  rw [putC_getD (by rw [putC_length]; exact hj), putC_getD hj, Int.neg_mul]
  omega
/-- Sums stay sums. -/
theorem putC_zip {wd dp s : Nat} {a c d : List Int} {key : Nat} {by_ : Int} (h1 : a.length = d.length) (h2 : c.length = d.length) (h : List.zipWith (fun a b => a + b) a c = d) : List.zipWith (fun a b => a + b) a (putC wd dp s c key by_) = putC wd dp s d key by_ := by
  refine ext_getD (by rw [List.length_zipWith, putC_length, putC_length]; omega) fun j hj => ?_
  rw [List.length_zipWith, putC_length] at hj
  have hz : ∀ (u v : List Int), u.length = d.length → v.length = d.length → (List.zipWith (fun a b => a + b) u v).getD j 0 = u.getD j 0 + v.getD j 0 := by
    intro u v hu hv
    rw [List.getD_eq_getElem?_getD, List.getD_eq_getElem?_getD, List.getD_eq_getElem?_getD, List.getElem?_zipWith, List.getElem?_eq_getElem (by omega), List.getElem?_eq_getElem (by omega)]
    rfl
  rw [hz _ _ h1 (by rw [putC_length]; exact h2), putC_getD (by omega), putC_getD (by omega), ← h, hz _ _ h1 h2]
  omega
theorem zip_zeros {a : List Int} {n : Nat} (h : a.length = n) : List.zipWith (fun a b => a + b) a (List.replicate n 0) = a := by
  refine ext_getD (by rw [List.length_zipWith, List.length_replicate]; omega) fun j hj => ?_
  rw [List.length_zipWith, List.length_replicate] at hj
  rw [List.getD_eq_getElem?_getD, List.getD_eq_getElem?_getD, List.getElem?_zipWith, List.getElem?_eq_getElem (by omega), List.getElem?_replicate, if_pos (by omega)]
  simp
/-- A single key. -/
def oneC (wd dp s key : Nat) (by_ : Int) : List Int := putC wd dp s (List.replicate (wd * dp) 0) key by_
theorem oneC_length (wd dp s key : Nat) (by_ : Int) : (oneC wd dp s key by_).length = wd * dp := by unfold oneC; rw [putC_length, List.length_replicate]
theorem oneC_getD {wd dp s key j : Nat} {by_ : Int} (hj : j < wd * dp) (hw : 0 < wd) : (oneC wd dp s key by_).getD j 0 = by_ * (if j / wd < dp ∧ placeN wd s key (j / wd) = j then signN key (saltN s (1000 + j / wd)) else 0) := by
  unfold oneC
  rw [putC_getD (by rw [List.length_replicate]; exact hj), getD_zeros, Int.zero_add, dK_eq hw]
theorem sign_sq (key salt : Nat) : signN key salt * signN key salt = 1 := by rcases signN_or key salt with h | h <;> rw [h] <;> rfl
theorem isrt_in {lt : Int → Int → Bool} : ∀ (l : List Int) {z : Int}, z ∈ isrt lt l → z ∈ l := by
  intro l
  suffices h : ∀ (l a : List Int) (z : Int), z ∈ l.foldl (insR lt) a → z ∈ l ∨ z ∈ a by
    intro z hz
    rcases h l [] z hz with h | h
    · exact h
    · simp at h
  intro l
  induction l with
  | nil => intro a z hz; exact .inr hz
  | cons y l ih =>
    intro a z hz
    rcases ih _ z hz with h | h
    · exact .inl (List.mem_cons_of_mem _ h)
    · unfold insR at h
      rcases List.mem_append.1 h with h | h
      · exact .inr (List.mem_of_mem_take h)
      · rcases List.mem_cons.1 h with h | h
        · subst h; exact .inl List.mem_cons_self
        · exact .inr (List.mem_of_mem_drop h)
theorem medI_same {l : List Int} {v : Int} (hp : 0 < l.length) (h : ∀ z ∈ l, z = v) : medI l = v := h _ (isrt_in l (List.mem_of_getElem? (medI_at l hp)))
theorem told_one {wd dp s key : Nat} {by_ : Int} (hw : 0 < wd) (hd : 0 < dp) : medI (sgnL (oneC wd dp s key by_) wd s key dp) = by_ := by
  refine medI_same (by rw [sgnL_length]; exact hd) fun z hz => ?_
  obtain ⟨i, hi, rfl⟩ := List.mem_map.1 hz
  rw [List.mem_range] at hi
  show (oneC wd dp s key by_).getD (placeN wd s key i) 0 * signN key (saltN s (1000 + i)) = by_
  rw [oneC_getD (placeN_lt hw hi) hw, place_row hw, if_pos ⟨hi, rfl⟩, Int.mul_assoc, sign_sq, Int.mul_one]
theorem sum_single : ∀ (L : List Int) (p : Nat) (v : Int), p < L.length → (∀ q, q < L.length → L.getD q 0 = if q = p then v else 0) → (L.map fun z => z * z).sum = v * v
  | [], p, v, hp, _ => by simp at hp
  | z :: L, 0, v, _, h => by
    have h0 := h 0 (by simp)
    have e0 : z = v := by simpa using h0
    have hr : (L.map fun z => z * z) = List.replicate L.length 0 := by
      rw [List.eq_replicate_iff]
      refine ⟨by simp, fun y hy => ?_⟩
      obtain ⟨u, hu, rfl⟩ := List.mem_map.1 hy
      obtain ⟨q, hq, rfl⟩ := List.mem_iff_getElem.1 hu
      have := h (q + 1) (by simp; omega)
      simp [hq] at this
      rw [this]; rfl
    rw [List.map_cons, List.sum_cons, hr, e0]
    simp
  | z :: L, p + 1, v, hp, h => by
    have h0 := h 0 (by simp)
    have e0 : z = 0 := by simpa using h0
    have ih := sum_single L p v (by simpa using hp) (fun q hq => by
      have := h (q + 1) (by simp; omega)
      simpa using this)
    rw [List.map_cons, List.sum_cons, ih, e0]
    simp
theorem zip_self (L : List Int) : List.zipWith (fun a b => a * b) L L = L.map fun z => z * z := by
  induction L with
  | nil => rfl
  | cons z L ih => rw [List.zipWith_cons_cons, ih, List.map_cons]
theorem norm_one {wd dp s key : Nat} {by_ : Int} (hw : 0 < wd) (hd : 0 < dp) : medI (dotsL (oneC wd dp s key by_) (oneC wd dp s key by_) wd dp) = by_ * by_ := by
  refine medI_same (by rw [dotsL_length]; exact hd) fun z hz => ?_
  obtain ⟨i, hi, rfl⟩ := List.mem_map.1 hz
  rw [List.mem_range] at hi
  show (prodL (oneC wd dp s key by_) (oneC wd dp s key by_) wd i).sum = by_ * by_
  have hl := rowL_length (x := oneC wd dp s key by_) (wd := wd) (dp := dp) (i := i) (oneC_length _ _ _ _ _) hi
  unfold prodL
  rw [zip_self]
  have hb := belowN_lt key (saltN s i) wd hw
  have hm : (i + 1) * wd ≤ dp * wd := Nat.mul_le_mul_right wd hi
  rw [Nat.add_mul, Nat.one_mul, Nat.mul_comm dp wd] at hm
  rw [sum_single _ (belowN key (saltN s i) wd) (by_ * signN key (saltN s (1000 + i))) (by rw [hl]; exact hb)]
  · rw [Int.mul_assoc, Int.mul_left_comm (signN key (saltN s (1000 + i))) by_, sign_sq, Int.mul_one]
  · intro q hq
    rw [hl] at hq
    have e : (i * wd + q) / wd = i := by rw [Nat.mul_comm, Nat.mul_add_div hw, Nat.div_eq_of_lt hq, Nat.add_zero]
    have h1 : (rowL (oneC wd dp s key by_) wd i).getD q 0 = (oneC wd dp s key by_).getD (i * wd + q) 0 := by
      rw [List.getD_eq_getElem?_getD, List.getD_eq_getElem?_getD, rowL_at hq]
    rw [h1, oneC_getD (by omega) hw, e]
    by_cases hp : q = belowN key (saltN s i) wd
    · rw [if_pos hp, if_pos ⟨hi, by unfold placeN; rw [hp]⟩]
    · rw [if_neg hp, if_neg, Int.mul_zero]
      rintro ⟨_, h⟩
      unfold placeN at h
      omega
/-- The corrected cells of no key are nought. -/
theorem corX_zero : ∀ wd, 2 ≤ wd → wd ≤ 13 → corX 0 0 wd = 0 := by
  have h : ∀ k, k < 12 → corX 0 0 (k + 2) = 0 := by decide +kernel
  intro wd h1 h2
  have := h (wd - 2) (by omega)
  rwa [show wd - 2 + 2 = wd by omega] at this
theorem rowL_zeros (n wd i : Nat) : (rowL (List.replicate n (0 : Int)) wd i).sum = 0 := by
  have h : ∀ (L : List Int), (∀ z ∈ L, z = 0) → L.sum = 0 := by
    intro L
    induction L with
    | nil => intro _; rfl
    | cons z L ih =>
      intro h
      rw [List.sum_cons, ih (fun y hy => h y (List.mem_cons_of_mem _ hy)), h z List.mem_cons_self]
      rfl
  exact h _ fun z hz => (List.mem_replicate.1 (rowL_mem hz)).2
theorem cor_zero {wd dp s key n : Nat} (h1 : 2 ≤ wd) (h2 : wd ≤ 13) (hd : 0 < dp) : medF (corL (List.replicate n 0) wd s key dp) = 0 := by
  have hz : ∀ z ∈ corL (List.replicate n 0) wd s key dp, z = 0 := by
    intro z hz
    obtain ⟨i, _, rfl⟩ := List.mem_map.1 hz
    show corX ((List.replicate n (0 : Int)).getD (placeN wd s key i) 0) (rowL (List.replicate n 0) wd i).sum wd = 0
    rw [getD_zeros, rowL_zeros]
    exact corX_zero wd h1 h2
  exact hz _ (medF_mem (by rw [corL_length]; exact hd))
/-- Cells of these sides. -/
theorem vCells_mk {wd dp s : Nat} {x : List Int} (hw1 : 2 ≤ wd) (hw2 : wd ≤ 64) (hd1 : 1 ≤ dp) (hd2 : dp ≤ 6) (hs : s ≤ 4294967295) (hl : x.length = wd * dp) (hb : ∀ y ∈ x, -1000000000000 ≤ y ∧ y ≤ 1000000000000) : vCells wd dp s x = true := by
  simp only [vCells, Bool.and_eq_true, decide_eq_true_eq, inB_iff]
  refine ⟨⟨⟨⟨by omega, by omega⟩, by omega⟩, by rw [hl, Int.natCast_mul]⟩, ?_⟩
  unfold allB
  rw [List.all_eq_true]
  exact fun y hy => inB_iff.2 (hb y hy)
theorem putC_bound {wd dp s : Nat} {x : List Int} {key : Nat} {by_ M : Int} (hM : 0 ≤ M) (hd : dp ≤ 6) (hb : -100 ≤ by_ ∧ by_ ≤ 100) (h : ∀ y ∈ x, -M ≤ y ∧ y ≤ M) : ∀ y ∈ putC wd dp s x key by_, -(M + 600) ≤ y ∧ y ≤ M + 600 := by
  intro y hy
  have h2 := stepL_bound (f := fSig key s by_) (lo := -M) (hi := M) (D := 100) (l := cellsL wd s key dp) h (by omega) (fun k u => by
    unfold fSig
    rcases signN_or key (saltN s (1000 + k)) with e | e <;> rw [e] <;> omega) dp y hy
  omega
end Go.Proofs.Ytbodfepfapjikaa
