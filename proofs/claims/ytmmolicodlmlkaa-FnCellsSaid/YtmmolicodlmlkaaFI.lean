/-
  Parts of the proof: Facts of slices: from company into the lone world, and back. Rows of slices of numbers: compared, marked, looked at for their marks: by contracts. The reference's CellsShared, by contract. Keys put to cells, plainly and carefully: what the cells tell of each key, their totals, their dot products. What the cells' functions return for the law's cells. An own row of numbers takes a number: all its cells, the spare ones too, stay numbers. A row of RowsShared, alone: all but its store. A row of RowsShared, alone: the run up to its store. A piece of a region, walked alone up to an operation, made in No condition.
-/
import Derived.Test.YtmmolicodlmlkaaFC
import Derived.Test.YtmmolicodlmlkaaFG
import Derived.Test.YtmmolicodlmlkaaFH
import Derived.Test.YtmmolicodlmlkaaFF
import Derived.Conc.LeavingOf
set_option linter.unusedVariables false
set_option linter.unusedSimpArgs false
namespace Go.Proofs.Ytmmolicodlmlkaa.Rel
open Go.Conc (G base)
open Go.Proofs.Ytmmolicodlmlkaa (RdL OwnS Blk)
set_option linter.unusedVariables false

theorem okV_undef (Fs : Fns) (B : Nat) : okV Fs B undef = true := by unfold undef; rw [okV_tuple]; simp
section
variable {P : Program} {Fs : Fns} {v w wl : World} {Rd S0 S : Nat → Prop} {ρ : Rn} {α : Type} {f : α → Value} {A : Option Addr} {xs : List α} {t : TypeId}
/-- New blocks may be named and written. -/
theorem fnsOf_new {fs : FuncId → Bool} {al wr : Nat → Prop} {b : Nat} (h : v.heap.size ≤ b) : (fnsOf fs v al wr).al b = true ∧ (fnsOf fs v al wr).wr b = true := by
  have : ¬ b < v.heap.size := by omega
  simp [fnsOf, this]
theorem fnsOf_old {fs : FuncId → Bool} {al wr : Nat → Prop} {b : Nat} (h : b < v.heap.size) (ha : al b) (hp : plainO v.heap[b]? = true) : (fnsOf fs v al wr).al b = true := by
  simp only [fnsOf, h, if_true, ha, decide_true, hp, Bool.and_self]
/-- A slice that the lone call has made, in company. -/
theorem Left.own (h : Left P Fs v Rd S0 ρ wl S w) (hnew : ∀ b, v.heap.size ≤ b → Fs.al b = true) (hf : ∀ x, ren ρ (f x) = f x) (ho : OwnS f wl v.heap.size t A xs) :
    OwnS f w v.heap.size t (A.map (renS ρ)) xs ∧ ∀ b o, xs ≠ [] → A.map (renS ρ) = some ⟨b, o, none⟩ → S b := by
  by_cases hx : xs = []
  · exact ⟨fun h => absurd hx h, fun b o h => absurd hx h⟩
  obtain ⟨g, ex, rfl, hg, hb⟩ := ho hx
  have hlt : g < wl.heap.size := hb.lt
  have hbr := h.wr.blk g hlt (hnew g hg)
  obtain ⟨ol, oc, h1, h2, h3⟩ := hbr
  have hb' : wl.heap[g]? = some (.cells (xs.map f ++ ex).toArray t (0, 0)) := hb
  rw [hb'] at h1
  have h1 := Option.some.inj h1
  subst h1
  have hne : (xs.map f ++ ex).toArray ≠ #[] := by
    intro e
    have := congrArg Array.toList e
    simp at this
    exact hx this.1
  refine ⟨fun _ => ⟨ρ.f g, ex.map (ren ρ), rfl, h.new g hg, ?_⟩, fun b o _ e => ?_⟩
  · show w.heap[ρ.f g]? = _
    rw [show w.heap[ρ.f g]? = some oc from h2]
    generalize hc : (xs.map f ++ ex).toArray = c at h3 hne
    generalize ho : Obj.cells c t (0, 0) = o at h3
    have hm : (xs.map f ++ ex.map (ren ρ)).toArray = c.map (ren ρ) := by
      rw [← hc]
      simp only [List.map_toArray, List.map_append, List.map_map]
      congr 2
      exact List.map_congr_left fun x _ => (hf x).symm
    cases h3 with
    | cells hw hcc => injection ho with e1 e2; subst e1; subst e2; rw [hm]
    | ro hcc _ => injection ho with e1 e2 e3; subst e1; exfalso; injection e3 with _ e4; exact hne (Array.eq_empty_of_size_eq_zero e4.symm)
    | bad => injection ho with e1; exact absurd e1 hne
    | dull hd => cases oc <;> simp [stand] at ho hd
    | number => cases ho
  · injection e with e
    injection e with e1
    exact (h.mine b).2 (.inr ⟨g, hg, hlt, e1⟩)
/-- A block that may be read as it stands. -/
def Clean (Fs : Fns) (v : World) (b : Nat) : Prop := ∃ c e, v.heap[b]? = some (.cells c e (0, 0)) ∧ ∀ x ∈ c, okV Fs v.heap.size x = true
theorem Clean.cell {a : Addr} (h : Clean Fs v a.block) (hn : Fs.na a.block = false) (ha : Fs.al a.block = true) : (loneW Fs v).cell? a = v.cell? a :=
  let ⟨_, _, h1, h2⟩ := h
  loneW_cell h1 hn ha h2
/-- .. whatever else lies beside it. -/
theorem rdl_look (h : RdL f v A xs) (hf : ∀ x, okV Fs v.heap.size (f x) = true) (hc : ∀ b o, xs ≠ [] → A = some ⟨b, o, none⟩ → Fs.na b = false ∧ Fs.al b = true ∧ Fs.wr b = false) : RdL f (loneW Fs v) A xs := by
  intro j hj
  obtain ⟨b, o, hA, hcell⟩ := h j hj
  obtain ⟨h0, h1, h2⟩ := hc b o (by intro e; subst e; simp at hj) hA
  exact ⟨b, o, hA, loneW_at (a := ⟨b, o + j, none⟩) hcell h0 h1 h2 (hf _)⟩
/-- Numbers alone. -/
def Ints (v : World) (b : Nat) : Prop := ∃ c e, v.heap[b]? = some (.cells c e (0, 0)) ∧ ∀ x ∈ c, ∃ i, x = .int .i64 i
theorem Ints.clean {b : Nat} (h : Ints v b) : Clean Fs v b :=
  let ⟨c, e, h1, h2⟩ := h
  ⟨c, e, h1, fun x hx => by obtain ⟨i, rfl⟩ := h2 x hx; simp⟩
theorem Ints.plain {b : Nat} (h : Ints v b) : plainO v.heap[b]? = true := by
  obtain ⟨c, e, h1, _⟩ := h
  rw [h1]; rfl
@[simp] theorem renS_lit (ρ : Rn) (b o : Nat) : renS ρ ⟨b, o, none⟩ = ⟨ρ.f b, o, none⟩ := rfl
/-- .. at a place of its own. -/
def IntsA (v : World) (a : Addr) : Prop := Ints v a.block ∧ a.spot = none
/-- A block that may be looked at, at a place of its own. -/
def Plz (v : World) (a : Addr) : Prop := plainO v.heap[a.block]? = true ∧ a.spot = none
theorem Ints.stay {b : Nat} (h : Ints v b) (hs : w.heap[b]? = v.heap[b]?) : Ints w b :=
  let ⟨c, e, h1, h2⟩ := h
  ⟨c, e, hs.trans h1, h2⟩
theorem IntsA.stay {a : Addr} (h : IntsA v a) (hs : w.heap[a.block]? = v.heap[a.block]?) : IntsA w a := ⟨h.1.stay hs, h.2⟩
theorem IntsA.plz {a : Addr} (h : IntsA v a) : Plz v a := ⟨h.1.plain, h.2⟩
theorem IntsA.plain {a : Addr} (h : IntsA v a) : plainO v.heap[a.block]? = true := h.1.plain
theorem Plz.stay {a : Addr} (h : Plz v a) (hs : w.heap[a.block]? = v.heap[a.block]?) : Plz w a := ⟨by rw [hs]; exact h.1, h.2⟩
end
end Go.Proofs.Ytmmolicodlmlkaa.Rel
namespace Go.Proofs.Ytmmolicodlmlkaa
open Go.RowKit
open Go.Proofs.Ytmmolicodlmlkaa.Rel (Ints)
set_option linter.unusedVariables false
set_option linter.unusedSimpArgs false

/-- The slice whose address is A reads, in w, as these rows. -/
def RdLL (w : World) (A : Option Addr) (xss : List (List Int)) : Prop :=
  ∀ o (h : o < xss.length), ∃ C k R cc, A = some ⟨C, k, none⟩ ∧ w.cell? ⟨C, k + o, none⟩ = some (.slice R xss[o].length cc) ∧ RdL (Value.int .i64) w R xss[o]
theorem RdLL.below {w w' : World} {A : Option Addr} {xss : List (List Int)} (h : RdLL w A xss) (hb : Below w.heap.size w w') : RdLL w' A xss := fun o ho => by
  obtain ⟨C, k, R, cc, e1, e2, e3⟩ := h o ho
  exact ⟨C, k, R, cc, e1, (hb.cell (p := ⟨C, k + o, none⟩) (World.block_lt_of_cell? w _ e2)).trans e2, e3.below hb⟩
theorem cell_grown {w w' : World} {a : Addr} {v : Value} (h : w.cell? a = some v) (hb : Below w.heap.size w w') : w'.cell? a = some v := (hb.cell (World.block_lt_of_cell? w a h)).trans h
end Go.Proofs.Ytmmolicodlmlkaa
namespace Go.Proofs.Ytmmolicodlmlkaa
open Go.RowKit
open Go.Proofs.Ytmmolicodlmlkaa.Rel (Ints)
set_option linter.unusedVariables false
set_option linter.unusedSimpArgs false

theorem touch_all2 {w w' w'' : World} {l : List (Option Addr × Nat)} (h : TouchAll w w' l) (k : TouchAll w' w'' l) : TouchAll w w'' l :=
  ⟨k.os.trans h.os, k.tape.trans h.tape, k.output.trans h.output, Nat.le_trans h.size k.size, fun b hb hp => (k.block b (Nat.lt_of_lt_of_le hb h.size) hp).trans (h.block b hb hp)⟩
theorem touch_all_refl {w : World} {l : List (Option Addr × Nat)} : TouchAll w w l := ⟨rfl, rfl, rfl, Nat.le_refl _, fun _ _ _ => rfl⟩
section
variable {w w' : World} {g n : Nat} {t : TypeId} {cs : List Value}
theorem Blk.touches (h : Blk w g t cs) {q : Nat} (k : TouchAll w w' [(some ⟨q, 0, none⟩, n)]) (hq : q ≠ g) : Blk w' g t cs :=
  (k.block g h.lt (by simp [hq])).trans h
theorem cell_touches {a : Addr} {v : Value} (h : w.cell? a = some v) {q : Nat} (k : TouchAll w w' [(some ⟨q, 0, none⟩, n)]) (hq : q ≠ a.block) : w'.cell? a = some v := by
  have hb := World.block_lt_of_cell? w a h
  have := k.block a.block hb (by simp [hq])
  unfold World.cell? at h ⊢
  rw [this]; exact h
end
/-- Are these lists of keys, for cells of these sides? -/
def gateCS (a0 a1 a2 : Int) (xss : List (List Int)) (kw : Int) : Bool := sidesB a0 a1 a2 && decide (1 ≤ xss.length) && decide (xss.length ≤ 16) && inB kw 1 8 && xss.all keysQ
end Go.Proofs.Ytmmolicodlmlkaa
namespace Go.Proofs.Ytmmolicodlmlkaa
open Go.RowKit
set_option linter.unusedVariables false

theorem place_row {wd s key i : Nat} (hw : 0 < wd) : placeN wd s key i / wd = i := by
  have h := belowN_lt key (saltN s i) wd hw
  unfold placeN
  rw [Nat.mul_comm, Nat.mul_add_div hw, Nat.div_eq_of_lt h, Nat.add_zero]
theorem getD_set (x : List Int) (i p : Nat) (v : Int) : (x.set i v).getD p 0 = if i = p ∧ i < x.length then v else x.getD p 0 := by
  rw [List.getD_eq_getElem?_getD, List.getElem?_set, List.getD_eq_getElem?_getD]
  by_cases h : i = p
  · subst h
    by_cases h2 : i < x.length
    · simp [h2]
    · simp [h2]
  · simp [h]
/-- Cells stepped at a key's places: each of them once. -/
theorem step_getD {f : Nat → Int → Int} {x : List Int} {wd s key dp p : Nat} (hw : 0 < wd) (hl : x.length = wd * dp) (n : Nat) (hn : n ≤ dp) : (stepL f x (cellsL wd s key dp) n).getD p 0 = if p / wd < n ∧ placeN wd s key (p / wd) = p then f (p / wd) (x.getD p 0) else x.getD p 0 := by
  induction n with
  | zero => simp [stepL]
  | succ n ih =>
    have ih := ih (by omega)
    have hc : ((cellsL wd s key dp).getD n 0).toNat = placeN wd s key n := by rw [List.getD_eq_getElem?_getD, cellsL_at (by omega)]; simp
    rw [stepL, hc, getD_set, stepL_length, hl]
    by_cases h1 : placeN wd s key n = p
    · have h2 : p / wd = n := by rw [← h1]; exact place_row hw
      rw [if_pos ⟨h1, placeN_lt hw (by omega)⟩, if_pos ⟨by omega, by rw [h2]; exact h1⟩, h1, ih, if_neg (by omega), h2]
    · rw [if_neg (fun h => h1 h.1), ih]
      by_cases h2 : p / wd < n ∧ placeN wd s key (p / wd) = p
      · rw [if_pos h2, if_pos ⟨by omega, h2.2⟩]
      · rw [if_neg h2, if_neg fun h => h2 ⟨by
          rcases Nat.lt_or_ge (p / wd) n with h3 | h3
          · exact h3
          · have : p / wd = n := by omega
            rw [this] at h
            exact absurd h.2 h1, h.2⟩]
theorem addAt_step (x : List Int) (wd s key dp : Nat) : addAt 1 x (cellsL wd s key dp) = stepL (fun _ u => u + 1) x (cellsL wd s key dp) dp := by
  have key : ∀ n, n ≤ dp → addAt 1 x ((cellsL wd s key dp).take n) = stepL (fun _ u => u + 1) x (cellsL wd s key dp) n := by
    intro n
    induction n with
    | zero => intro _; simp [addAt, stepL]
    | succ n ih =>
      intro hn
      have ih := ih (by omega)
      rw [stepL, ← ih]
      unfold addAt
      rw [List.take_add_one, List.foldl_append, cellsL_at (by omega)]
      simp only [Option.toList_some, List.foldl_cons, List.foldl_nil]
      rw [List.getD_eq_getElem?_getD (l := cellsL wd s key dp), cellsL_at (by omega), Option.getD_some]
  have h := key dp (Nat.le_refl _)
  rwa [List.take_of_length_le (by rw [cellsL_length]; exact Nat.le_refl _)] at h
theorem addAt_getD {x : List Int} {wd s key dp p : Nat} (hw : 0 < wd) (hl : x.length = wd * dp) : (addAt 1 x (cellsL wd s key dp)).getD p 0 = x.getD p 0 + if p / wd < dp ∧ placeN wd s key (p / wd) = p then 1 else 0 := by
  rw [addAt_step, step_getD hw hl dp (Nat.le_refl _)]
  split <;> simp
theorem putKs_snoc' (wd s dp : Nat) (x ks : List Int) (i : Nat) (h : i < ks.length) : putKs wd s dp x (ks.take (i + 1)) = addAt 1 (putKs wd s dp x (ks.take i)) (cellsL wd s ks[i].toNat dp) := by
  rw [List.take_add_one, List.getElem?_eq_getElem h]
  exact putKs_snoc _ _ _ _ _ _
/-- Keys are put carefully. -/
def putCar (wd s dp : Nat) (x ks : List Int) : List Int := ks.foldl (fun x k => stepL (fCar (minAtM 1000000000000 x (cellsL wd s k.toNat dp) + 1)) x (cellsL wd s k.toNat dp) dp) x
theorem putCar_snoc (wd s dp : Nat) (x ks : List Int) (k : Int) : putCar wd s dp x (ks ++ [k]) = stepL (fCar (minAtM 1000000000000 (putCar wd s dp x ks) (cellsL wd s k.toNat dp) + 1)) (putCar wd s dp x ks) (cellsL wd s k.toNat dp) dp := by simp [putCar]
theorem putCar_snoc' (wd s dp : Nat) (x ks : List Int) (i : Nat) (h : i < ks.length) : putCar wd s dp x (ks.take (i + 1)) = stepL (fCar (minAtM 1000000000000 (putCar wd s dp x (ks.take i)) (cellsL wd s ks[i].toNat dp) + 1)) (putCar wd s dp x (ks.take i)) (cellsL wd s ks[i].toNat dp) dp := by
  rw [List.take_add_one, List.getElem?_eq_getElem h]
  exact putCar_snoc _ _ _ _ _ _
theorem putCar_length (wd s dp : Nat) (x ks : List Int) : (putCar wd s dp x ks).length = x.length := by
  unfold putCar
  induction ks generalizing x with
  | nil => rfl
  | cons k ks ih => rw [List.foldl_cons, ih, stepL_length]
/-! ### the least of some cells -/
theorem minAtM_mem {M : Int} {x l : List Int} {p : Int} (h : p ∈ l) : minAtM M x l ≤ x.getD p.toNat 0 := by
  unfold minAtM
  induction l generalizing M with
  | nil => cases h
  | cons a l ih =>
    rw [List.foldl_cons]
    rcases List.mem_cons.1 h with rfl | h
    · exact Int.le_trans (minAtM_le _ x l) (Int.min_le_right _ _)
    · exact ih h
theorem minAtM_low {M lo : Int} {x l : List Int} (hM : lo ≤ M) (h : ∀ p ∈ l, lo ≤ x.getD p.toNat 0) : lo ≤ minAtM M x l := by
  unfold minAtM
  induction l generalizing M with
  | nil => exact hM
  | cons a l ih =>
    rw [List.foldl_cons]
    refine ih ?_ fun p hp => h p (List.mem_cons_of_mem _ hp)
    have := h a (List.mem_cons_self)
    omega
theorem minAtM_mono {M : Int} {x y l : List Int} (h : ∀ p ∈ l, x.getD p.toNat 0 ≤ y.getD p.toNat 0) : minAtM M x l ≤ minAtM M y l := minAtM_low (minAtM_le _ _ _) fun p hp => Int.le_trans (minAtM_mem hp) (h p hp)
theorem cellsL_mem' {wd s key dp : Nat} {p : Int} (h : p ∈ cellsL wd s key dp) : ∃ i, i < dp ∧ p.toNat = placeN wd s key i := by
  simp only [cellsL, List.mem_map, List.mem_range] at h
  obtain ⟨j, hj, rfl⟩ := h
  exact ⟨j, hj, by simp⟩
theorem place_mem {wd s key dp i : Nat} (h : i < dp) : (placeN wd s key i : Int) ∈ cellsL wd s key dp := by
  simp only [cellsL, List.mem_map, List.mem_range]
  exact ⟨i, h, rfl⟩
/-! ### what the cells tell -/
/-- Cells that have been put keys: none tells less than was put. -/
structure Told (wd s dp : Nat) (ks x : List Int) : Prop where
  len : x.length = wd * dp
  low : ∀ p, 0 ≤ x.getD p 0
  how : ∀ (key : Int) i, 0 ≤ key → i < dp → (ks.count key : Int) ≤ x.getD (placeN wd s key.toNat i) 0
theorem Told.zeros (wd s dp : Nat) : Told wd s dp [] (List.replicate (wd * dp) 0) := by
  have hz : ∀ p, (List.replicate (wd * dp) (0 : Int)).getD p 0 = 0 := fun p => by
    rw [List.getD_eq_getElem?_getD, List.getElem?_replicate]
    split <;> rfl
  exact ⟨by simp, fun p => by rw [hz]; exact Int.le_refl _, fun key i _ _ => by rw [hz]; simp⟩
theorem Told.at {wd s dp : Nat} {ks x : List Int} (h : Told wd s dp ks x) {key : Int} (hk : 0 ≤ key) (hc : ks.length ≤ 1000000) : (ks.count key : Int) ≤ minAtM 1000000000000 x (cellsL wd s key.toNat dp) :=
  minAtM_low (by have := List.count_le_length (a := key) (l := ks); omega) fun p hp => by
    obtain ⟨i, hi, e⟩ := cellsL_mem' hp
    rw [e]
    exact h.how key i hk hi
theorem Told.put {wd s dp : Nat} {ks x : List Int} (h : Told wd s dp ks x) (hw : 0 < wd) {k : Int} (hk : 0 ≤ k) : Told wd s dp (ks ++ [k]) (addAt 1 x (cellsL wd s k.toNat dp)) := by
  refine ⟨by rw [addAt_length]; exact h.len, fun p => ?_, fun key i hkey hi => ?_⟩
  · rw [addAt_getD hw h.len]
    have := h.low p
    split <;> omega
  · rw [addAt_getD hw h.len, place_row hw, List.count_append]
    have h1 := h.how key i hkey hi
    by_cases he : k = key
    · subst he
      have h1' : List.count k [k] = 1 := by simp
      rw [if_pos ⟨hi, rfl⟩, h1', Int.natCast_add]
      omega
    · have : List.count key [k] = 0 := by simp [he]
      rw [this]
      split <;> omega
theorem Told.careful {wd s dp : Nat} {ks x : List Int} (h : Told wd s dp ks x) (hw : 0 < wd) (hc : ks.length ≤ 1000000) {k : Int} (hk : 0 ≤ k) : Told wd s dp (ks ++ [k]) (stepL (fCar (minAtM 1000000000000 x (cellsL wd s k.toNat dp) + 1)) x (cellsL wd s k.toNat dp) dp) := by
  refine ⟨by rw [stepL_length]; exact h.len, fun p => ?_, fun key i hkey hi => ?_⟩
  · rw [step_getD hw h.len dp (Nat.le_refl _)]
    have := h.low p
    unfold fCar
    split <;> omega
  · rw [step_getD hw h.len dp (Nat.le_refl _), place_row hw, List.count_append]
    have h1 := h.how key i hkey hi
    unfold fCar
    by_cases he : k = key
    · subst he
      rw [if_pos ⟨hi, rfl⟩]
      have := h.at hk hc
      have h1' : List.count k [k] = 1 := by simp
      rw [h1', Int.natCast_add]
      omega
    · have : List.count key [k] = 0 := by simp [he]
      rw [this]
      split <;> omega
theorem told_put {wd s dp : Nat} {ks : List Int} (hw : 0 < wd) (hk : ∀ k ∈ ks, 0 ≤ k) (n : Nat) (hn : n ≤ ks.length) : Told wd s dp (ks.take n) (putKs wd s dp (List.replicate (wd * dp) 0) (ks.take n)) := by
  induction n with
  | zero => simpa [putKs] using Told.zeros wd s dp
  | succ n ih =>
    have h := (ih (by omega)).put hw (hk ks[n] (List.getElem_mem _))
    rw [putKs_snoc' _ _ _ _ _ _ (by omega)]
    rw [List.take_add_one, List.getElem?_eq_getElem (by omega)]
    exact h
theorem told_car {wd s dp : Nat} {ks : List Int} (hw : 0 < wd) (hc : ks.length ≤ 1000000) (hk : ∀ k ∈ ks, 0 ≤ k) (n : Nat) (hn : n ≤ ks.length) : Told wd s dp (ks.take n) (putCar wd s dp (List.replicate (wd * dp) 0) (ks.take n)) := by
  induction n with
  | zero => simpa [putCar] using Told.zeros wd s dp
  | succ n ih =>
    have h := (ih (by omega)).careful hw (by simp; omega) (hk ks[n] (List.getElem_mem _))
    rw [putCar_snoc' _ _ _ _ _ _ (by omega)]
    rw [List.take_add_one, List.getElem?_eq_getElem (by omega)]
    exact h
/-- Careful cells tell no more. -/
theorem car_le {wd s dp : Nat} {ks : List Int} (hw : 0 < wd) (n : Nat) (hn : n ≤ ks.length) (p : Nat) : (putCar wd s dp (List.replicate (wd * dp) 0) (ks.take n)).getD p 0 ≤ (putKs wd s dp (List.replicate (wd * dp) 0) (ks.take n)).getD p 0 := by
  induction n generalizing p with
  | zero => simp [putCar, putKs]
  | succ n ih =>
    have ih := ih (by omega)
    rw [putKs_snoc' _ _ _ _ _ _ (by omega), putCar_snoc' _ _ _ _ _ _ (by omega), step_getD hw (by rw [putCar_length]; simp) dp (Nat.le_refl _), addAt_getD hw (by rw [putKs_length]; simp)]
    have h1 := ih p
    split
    · rename_i h2
      have h3 := minAtM_mem (M := 1000000000000) (x := putCar wd s dp (List.replicate (wd * dp) 0) (ks.take n)) (place_mem (wd := wd) (s := s) (key := ks[n].toNat) (dp := dp) h2.1)
      rw [Int.toNat_natCast, h2.2] at h3
      unfold fCar
      omega
    · omega
theorem put_le {wd s dp : Nat} {ks : List Int} (hw : 0 < wd) (n : Nat) (hn : n ≤ ks.length) (p : Nat) : (putKs wd s dp (List.replicate (wd * dp) 0) (ks.take n)).getD p 0 ≤ n := by
  induction n generalizing p with
  | zero =>
    simp only [putKs, List.take_zero, List.foldl_nil]
    rw [List.getD_eq_getElem?_getD, List.getElem?_replicate]
    split <;> simp
  | succ n ih =>
    have ih := ih (by omega) p
    rw [putKs_snoc' _ _ _ _ _ _ (by omega), addAt_getD hw (by rw [putKs_length]; simp)]
    split <;> omega
theorem mem_getD {x : List Int} {y : Int} (h : y ∈ x) : ∃ p, p < x.length ∧ x.getD p 0 = y := by
  obtain ⟨p, hp, e⟩ := List.mem_iff_getElem.1 h
  exact ⟨p, hp, by rw [List.getD_eq_getElem?_getD, List.getElem?_eq_getElem hp]; simpa using e⟩
/-! ### totals and products -/
theorem sum_set (l : List Int) (j : Nat) (d : Int) (h : j < l.length) : (l.set j (l.getD j 0 + d)).sum = l.sum + d := by
  induction l generalizing j with
  | nil => simp at h
  | cons a l ih =>
    cases j with
    | zero => simp; omega
    | succ j =>
      have := ih j (by simpa using h)
      simp only [List.set_cons_succ, List.sum_cons, List.getD_cons_succ] at this ⊢
      omega
theorem prod_set (l m : List Int) (j : Nat) (h : j < l.length) (hm : m.length = l.length) : (List.zipWith (fun a b => a * b) (l.set j (l.getD j 0 + 1)) m).sum = (List.zipWith (fun a b => a * b) l m).sum + m.getD j 0 := by
  induction l generalizing j m with
  | nil => simp at h
  | cons a l ih =>
    cases m with
    | nil => simp at hm
    | cons b m =>
      cases j with
      | zero =>
        simp only [List.set_cons_zero, List.zipWith_cons_cons, List.sum_cons, List.getD_cons_zero, Int.add_mul, Int.one_mul]
        omega
      | succ j =>
        have := ih m j (by simpa using h) (by simpa using hm)
        simp only [List.set_cons_succ, List.zipWith_cons_cons, List.sum_cons, List.getD_cons_succ] at this ⊢
        omega
theorem row_put {x : List Int} {wd s key dp i : Nat} (hw : 0 < wd) (hl : x.length = wd * dp) (hi : i < dp) : rowL (addAt 1 x (cellsL wd s key dp)) wd i = (rowL x wd i).set (belowN key (saltN s i) wd) ((rowL x wd i).getD (belowN key (saltN s i) wd) 0 + 1) := by
  have hb := belowN_lt key (saltN s i) wd hw
  have hl' : (addAt 1 x (cellsL wd s key dp)).length = wd * dp := by rw [addAt_length]; exact hl
  have key1 : ∀ j, j < wd → ∀ z : List Int, z.length = wd * dp → (rowL z wd i)[j]? = some (z.getD (i * wd + j) 0) := fun j hj z hz => by
    rw [rowL_at hj]
    have h2 : (i + 1) * wd ≤ dp * wd := Nat.mul_le_mul_right wd hi
    rw [Nat.add_mul] at h2
    have h3 : i * wd + j < z.length := by rw [hz, Nat.mul_comm wd dp]; omega
    rw [List.getElem?_eq_getElem h3, List.getD_eq_getElem?_getD, List.getElem?_eq_getElem h3, Option.getD_some]
  apply List.ext_getElem?
  intro j
  by_cases hj : j < wd
  · rw [key1 j hj _ hl', addAt_getD hw hl, List.getElem?_set, rowL_length hl hi, key1 j hj _ hl]
    have hq : (i * wd + j) / wd = i := by rw [Nat.mul_comm, Nat.mul_add_div hw, Nat.div_eq_of_lt hj, Nat.add_zero]
    rw [hq]
    by_cases he : belowN key (saltN s i) wd = j
    · subst he
      rw [if_pos ⟨hi, rfl⟩, if_pos rfl, if_pos hb]
      congr 1
      rw [List.getD_eq_getElem?_getD (l := rowL x wd i), key1 _ hb _ hl, Option.getD_some]
    · rw [if_neg (fun h => he (by have := h.2; unfold placeN at this; omega)), if_neg he, Int.add_zero]
  · rw [List.getElem?_eq_none (by rw [rowL_length hl' hi]; omega), List.getElem?_eq_none (by rw [List.length_set, rowL_length hl hi]; omega)]
theorem zsum : ∀ l : List Int, (∀ z ∈ l, z = 0) → l.sum = 0
  | [], _ => rfl
  | a :: l, h => by rw [List.sum_cons, h a (by simp), zsum l fun z hz => h z (by simp [hz])]; rfl
theorem total_put {wd s dp : Nat} {ks : List Int} (hw : 0 < wd) (hd : 0 < dp) (n : Nat) (hn : n ≤ ks.length) : (rowL (putKs wd s dp (List.replicate (wd * dp) 0) (ks.take n)) wd 0).sum = n := by
  induction n with
  | zero =>
    exact zsum _ fun z hz => List.eq_of_mem_replicate (rowL_mem hz)
  | succ n ih =>
    have hlen : (putKs wd s dp (List.replicate (wd * dp) 0) (ks.take n)).length = wd * dp := by rw [putKs_length]; simp
    rw [putKs_snoc' _ _ _ _ _ _ (by omega), row_put hw hlen hd, sum_set _ _ _ (by rw [rowL_length hlen hd]; exact belowN_lt _ _ _ hw), ih (by omega)]
    simp
/-- The products of how often each key below n stands in two lists, added. -/
def prodsN (ks os : List Int) : Nat → Int
  | 0 => 0
  | n + 1 => prodsN ks os n + (ks.count (n : Int) : Int) * (os.count (n : Int) : Int)
theorem prodsN_nil (os : List Int) (n : Nat) : prodsN [] os n = 0 := by
  induction n with
  | zero => rfl
  | succ n ih => simp [prodsN, ih]
theorem prodsN_snoc (ks os : List Int) (k : Int) (n : Nat) : prodsN (ks ++ [k]) os n = prodsN ks os n + if 0 ≤ k ∧ k < n then (os.count k : Int) else 0 := by
  induction n with
  | zero => simp [prodsN]; omega
  | succ n ih =>
    simp only [prodsN]
    rw [ih, List.count_append]
    by_cases h : k = (n : Int)
    · subst h
      have h1 : List.count (n : Int) [(n : Int)] = 1 := by simp
      rw [h1, if_neg (by omega), if_pos ⟨by omega, by omega⟩]
      rw [Int.natCast_add, Int.add_mul]
      simp
      omega
    · have h1 : List.count (n : Int) [k] = 0 := by simp [h]
      rw [h1, Nat.add_zero]
      by_cases h2 : 0 ≤ k ∧ k < (n : Int)
      · rw [if_pos h2, if_pos ⟨h2.1, by omega⟩]; omega
      · rw [if_neg h2, if_neg (by omega)]; omega
theorem prodsN_low (ks os : List Int) (n : Nat) : 0 ≤ prodsN ks os n := by
  induction n with
  | zero => exact Int.le_refl _
  | succ n ih =>
    have : 0 ≤ (ks.count (n : Int) : Int) * (os.count (n : Int) : Int) := Int.mul_nonneg (by omega) (by omega)
    simp only [prodsN]
    omega
theorem prods_put {wd s dp i : Nat} {ks os y : List Int} (hw : 0 < wd) (hi : i < dp) (hy : Told wd s dp os y) (hk : ∀ k ∈ ks, 0 ≤ k) (m n : Nat) (hn : n ≤ ks.length) : prodsN (ks.take n) os m ≤ (prodL (putKs wd s dp (List.replicate (wd * dp) 0) (ks.take n)) y wd i).sum := by
  induction n with
  | zero =>
    rw [List.take_zero, prodsN_nil]
    have hz : ∀ z ∈ prodL (putKs wd s dp (List.replicate (wd * dp) 0) []) y wd i, z = 0 := by
      intro z hz
      unfold prodL at hz
      obtain ⟨j, hj, e⟩ := List.mem_iff_getElem.1 hz
      rw [List.getElem_zipWith] at e
      have h0 : (rowL (putKs wd s dp (List.replicate (wd * dp) 0) []) wd i)[j]'(by simp at hj; omega) = 0 := by
        have := rowL_mem (List.getElem_mem (l := rowL (putKs wd s dp (List.replicate (wd * dp) 0) []) wd i) (n := j) (by simp at hj; omega))
        exact List.eq_of_mem_replicate this
      rw [h0, Int.zero_mul] at e
      exact e.symm
    rw [zsum _ hz]
    exact Int.le_refl _
  | succ n ih =>
    have ih := ih (by omega)
    have hlen : (putKs wd s dp (List.replicate (wd * dp) 0) (ks.take n)).length = wd * dp := by rw [putKs_length]; simp
    have hb := belowN_lt ks[n].toNat (saltN s i) wd hw
    have e : (prodL (putKs wd s dp (List.replicate (wd * dp) 0) (ks.take (n + 1))) y wd i).sum = (prodL (putKs wd s dp (List.replicate (wd * dp) 0) (ks.take n)) y wd i).sum + y.getD (placeN wd s ks[n].toNat i) 0 := by
      unfold prodL
      rw [putKs_snoc' _ _ _ _ _ _ (by omega), row_put hw hlen hi, prod_set _ _ _ (by rw [rowL_length hlen hi]; exact hb) (by rw [rowL_length hlen hi, rowL_length hy.len hi])]
      congr 1
      rw [List.getD_eq_getElem?_getD, rowL_at hb, List.getD_eq_getElem?_getD, placeN]
    rw [e, List.take_add_one, List.getElem?_eq_getElem (by omega), Option.toList_some, prodsN_snoc]
    have h1 := hy.how ks[n] i (hk _ (List.getElem_mem _)) hi
    have hadd : ∀ (a b c d : Int), a ≤ b → c ≤ d → a + c ≤ b + d := fun a b c d h h' => by omega
    refine hadd _ _ _ _ ih ?_
    by_cases h2 : 0 ≤ ks[n] ∧ ks[n] < (m : Int)
    · rw [if_pos h2]; exact h1
    · rw [if_neg h2]; exact hy.low _
theorem minL_low {l : List Int} {lo : Int} (hne : l ≠ []) (h : ∀ z ∈ l, lo ≤ z) : lo ≤ minL l := by
  cases l with
  | nil => exact absurd rfl hne
  | cons a l =>
    simp only [minL]
    have key : ∀ (m : List Int) (b : Int), lo ≤ b → (∀ z ∈ m, lo ≤ z) → lo ≤ m.foldl min b := by
      intro m
      induction m with
      | nil => intro b hb _; exact hb
      | cons c m ih => intro b hb hm; exact ih _ (by have := hm c (by simp); omega) fun z hz => hm z (by simp [hz])
    exact key l a (h a (by simp)) fun z hz => h z (by simp [hz])
end Go.Proofs.Ytmmolicodlmlkaa
namespace Go.Proofs.Ytmmolicodlmlkaa
open Go.RowKit
set_option linter.unusedVariables false

/-- The law's sides and keys. -/
structure FcOk (wd dp s : Nat) (ks os : List Int) : Prop where
  w1 : 2 ≤ wd
  w2 : wd ≤ 13
  d1 : 1 ≤ dp
  d2 : dp ≤ 4
  s2 : s ≤ 25500
  kl : ks.length ≤ 19
  ol : os.length ≤ 19
  kb : ∀ k ∈ ks, 0 ≤ k ∧ k ≤ 8
  ob : ∀ k ∈ os, 0 ≤ k ∧ k ≤ 8
section
variable {wd dp s : Nat} {ks os x : List Int}
theorem FcOk.sz (h : FcOk wd dp s ks os) : 2 ≤ wd * dp ∧ wd * dp ≤ 52 := by
  have h1 := Nat.mul_le_mul h.w2 h.d2
  have h2 := Nat.mul_le_mul h.w1 h.d1
  omega
theorem FcOk.sym (h : FcOk wd dp s ks os) : FcOk wd dp s os ks := ⟨h.w1, h.w2, h.d1, h.d2, h.s2, h.ol, h.kl, h.ob, h.kb⟩
theorem FcOk.sides (h : FcOk wd dp s ks os) : sidesB (wd : Int) (dp : Int) (s : Int) = true := by
  have := h.w1; have := h.w2; have := h.d1; have := h.d2; have := h.s2
  simp only [sidesB, Bool.and_eq_true, inB_iff]
  omega
theorem FcOk.valid (h : FcOk wd dp s ks os) (hl : x.length = wd * dp) (hb : ∀ y ∈ x, 0 ≤ y ∧ y ≤ 1000) : vCells (wd : Int) (dp : Int) (s : Int) x = true := by
  have := h.w1; have := h.w2; have := h.d1; have := h.d2; have := h.s2
  simp only [vCells, Bool.and_eq_true, inB_iff, decide_eq_true_eq]
  refine ⟨⟨⟨⟨by omega, by omega⟩, by omega⟩, by rw [hl]; simp⟩, ?_⟩
  unfold allB
  rw [List.all_eq_true]
  intro y hy
  have := hb y hy
  exact inB_iff.2 (by omega)
abbrev zerosC (wd dp : Nat) : List Int := List.replicate (wd * dp) 0
theorem FcOk.putB (h : FcOk wd dp s ks os) (n : Nat) (hn : n ≤ ks.length) : ∀ y ∈ putKs wd s dp (zerosC wd dp) (ks.take n), 0 ≤ y ∧ y ≤ 1000 := fun y hy => by
  obtain ⟨p, hp, rfl⟩ := mem_getD hy
  have hw : 0 < wd := by have := h.w1; omega
  have h1 := (told_put (wd := wd) (s := s) (dp := dp) (ks := ks) hw (fun k hk => (h.kb k hk).1) n hn).low p
  have h2 := put_le (wd := wd) (s := s) (dp := dp) (ks := ks) hw n hn p
  have h3 := h.kl
  exact ⟨h1, Int.le_trans h2 (by omega)⟩
theorem FcOk.carB (h : FcOk wd dp s ks os) (n : Nat) (hn : n ≤ ks.length) : ∀ y ∈ putCar wd s dp (zerosC wd dp) (ks.take n), 0 ≤ y ∧ y ≤ 1000 := fun y hy => by
  obtain ⟨p, hp, rfl⟩ := mem_getD hy
  have hw : 0 < wd := by have := h.w1; omega
  have h1 := (told_car (wd := wd) (s := s) (dp := dp) (ks := ks) hw (by have := h.kl; omega) (fun k hk => (h.kb k hk).1) n hn).low p
  have h2 := put_le (wd := wd) (s := s) (dp := dp) (ks := ks) hw n hn p
  have h3 := car_le (wd := wd) (s := s) (dp := dp) (ks := ks) hw n hn p
  have h4 := h.kl
  exact ⟨h1, Int.le_trans h3 (Int.le_trans h2 (by omega))⟩
theorem putZ_length (l : List Int) : (putKs wd s dp (zerosC wd dp) l).length = wd * dp := by rw [putKs_length]; simp
theorem carZ_length (l : List Int) : (putCar wd s dp (zerosC wd dp) l).length = wd * dp := by rw [putCar_length]; simp
theorem FcOk.put (h : FcOk wd dp s ks os) (i : Nat) (hi : i < ks.length) : pPutCells wd dp s (putKs wd s dp (zerosC wd dp) (ks.take i)) ks[i] 1 = (((wd : Int), (dp : Int), (s : Int), putKs wd s dp (zerosC wd dp) (ks.take (i + 1))), true) := by
  have hk := h.kb ks[i] (List.getElem_mem _)
  have h1 := h.valid (putZ_length _) (h.putB i (by omega))
  have h2 := h.valid (putZ_length _) (h.putB (i + 1) (by omega))
  have h3 : inB ks[i] 0 4294967295 = true := inB_iff.2 (by omega)
  have h4 : inB (1 : Int) (-1000000) 1000000 = true := by decide
  have e : addAt 1 (putKs wd s dp (zerosC wd dp) (ks.take i)) (cellsL (wd : Int).toNat (s : Int).toNat ks[i].toNat (dp : Int).toNat) = putKs wd s dp (zerosC wd dp) (ks.take (i + 1)) := by
    rw [putKs_snoc' _ _ _ _ _ _ hi]; simp only [Int.toNat_natCast]
  rw [pPutCells, if_pos (by rw [h1, h3, h4]; rfl), e, giveP, if_pos h2]
theorem FcOk.car (h : FcOk wd dp s ks os) (i : Nat) (hi : i < ks.length) : pPutCareful wd dp s (putCar wd s dp (zerosC wd dp) (ks.take i)) ks[i] 1 = (((wd : Int), (dp : Int), (s : Int), putCar wd s dp (zerosC wd dp) (ks.take (i + 1))), true) := by
  have hk := h.kb ks[i] (List.getElem_mem _)
  have h1 := h.valid (carZ_length _) (h.carB i (by omega))
  have h2 := h.valid (carZ_length _) (h.carB (i + 1) (by omega))
  have h3 : inB ks[i] 0 4294967295 = true := inB_iff.2 (by omega)
  have h4 : inB (1 : Int) 0 1000000 = true := by decide
  have e : stepL (fCar (minAtM 1000000000000 (putCar wd s dp (zerosC wd dp) (ks.take i)) (cellsL (wd : Int).toNat (s : Int).toNat ks[i].toNat (dp : Int).toNat) + 1)) (putCar wd s dp (zerosC wd dp) (ks.take i)) (cellsL (wd : Int).toNat (s : Int).toNat ks[i].toNat (dp : Int).toNat) (dp : Int).toNat = putCar wd s dp (zerosC wd dp) (ks.take (i + 1)) := by
    rw [putCar_snoc' _ _ _ _ _ _ hi]; simp only [Int.toNat_natCast]
  rw [pPutCareful, if_pos (by rw [h1, h3, h4]; rfl), e, giveP, if_pos h2]
theorem FcOk.new (h : FcOk wd dp s ks os) : pNewCells wd dp s = (((wd : Int), (dp : Int), (s : Int), zerosC wd dp), true) := by
  rw [pNewCells_yes h.sides]
  have : ((wd : Int) * (dp : Int)).toNat = wd * dp := by rw [← Int.natCast_mul]; exact Int.toNat_natCast _
  rw [this]
/-- What is put, all of it. -/
abbrev putC (wd s dp : Nat) (ks : List Int) : List Int := putKs wd s dp (zerosC wd dp) ks
abbrev carC (wd s dp : Nat) (ks : List Int) : List Int := putCar wd s dp (zerosC wd dp) ks
abbrev bothC (wd s dp : Nat) (ks os : List Int) : List Int := addL (putC wd s dp ks) (putC wd s dp os)
theorem bothC_length : (bothC wd s dp ks os).length = wd * dp := by
  rw [addL_length (by rw [putZ_length, putZ_length]), putZ_length]
theorem FcOk.told (h : FcOk wd dp s ks os) : Told wd s dp ks (putC wd s dp ks) := by
  have := told_put (wd := wd) (s := s) (dp := dp) (ks := ks) (by have := h.w1; omega) (fun k hk => (h.kb k hk).1) ks.length (Nat.le_refl _)
  rwa [List.take_length] at this
theorem FcOk.toldC (h : FcOk wd dp s ks os) : Told wd s dp ks (carC wd s dp ks) := by
  have := told_car (wd := wd) (s := s) (dp := dp) (ks := ks) (by have := h.w1; omega) (by have := h.kl; omega) (fun k hk => (h.kb k hk).1) ks.length (Nat.le_refl _)
  rwa [List.take_length] at this
theorem FcOk.putA (h : FcOk wd dp s ks os) : ∀ y ∈ putC wd s dp ks, 0 ≤ y ∧ y ≤ 1000 := by
  have := h.putB ks.length (Nat.le_refl _)
  rwa [List.take_length] at this
theorem FcOk.carA (h : FcOk wd dp s ks os) : ∀ y ∈ carC wd s dp ks, 0 ≤ y ∧ y ≤ 1000 := by
  have := h.carB ks.length (Nat.le_refl _)
  rwa [List.take_length] at this
theorem both_getD (p : Nat) : (bothC wd s dp ks os).getD p 0 = (putC wd s dp ks).getD p 0 + (putC wd s dp os).getD p 0 := by
  have h1 := putZ_length (wd := wd) (s := s) (dp := dp) ks
  have h2 := putZ_length (wd := wd) (s := s) (dp := dp) os
  simp only [bothC, addL, List.getD_eq_getElem?_getD, List.getElem?_zipWith]
  by_cases hp : p < wd * dp
  · rw [List.getElem?_eq_getElem (by rw [h1]; exact hp), List.getElem?_eq_getElem (by rw [h2]; exact hp)]; rfl
  · rw [List.getElem?_eq_none (by rw [h1]; omega), List.getElem?_eq_none (by rw [h2]; omega)]; rfl
theorem small_getD {x : List Int} (h : ∀ y ∈ x, 0 ≤ y ∧ y ≤ 1000) (p : Nat) : 0 ≤ x.getD p 0 ∧ x.getD p 0 ≤ 1000 := by
  rw [List.getD_eq_getElem?_getD]
  by_cases hp : p < x.length
  · rw [List.getElem?_eq_getElem hp]; exact h _ (List.getElem_mem _)
  · rw [List.getElem?_eq_none (by omega)]; exact ⟨Int.le_refl _, by decide⟩
theorem FcOk.bothA (h : FcOk wd dp s ks os) : ∀ y ∈ bothC wd s dp ks os, 0 ≤ y ∧ y ≤ 2000 := fun y hy => by
  obtain ⟨p, _, rfl⟩ := mem_getD hy
  rw [both_getD]
  have h1 := small_getD h.putA p
  have h2 := small_getD h.sym.putA p
  omega
theorem FcOk.valid2 (h : FcOk wd dp s ks os) (hl : x.length = wd * dp) (hb : ∀ y ∈ x, 0 ≤ y ∧ y ≤ 2000) : vCells (wd : Int) (dp : Int) (s : Int) x = true := by
  have := h.w1; have := h.w2; have := h.d1; have := h.d2; have := h.s2
  simp only [vCells, Bool.and_eq_true, inB_iff, decide_eq_true_eq]
  refine ⟨⟨⟨⟨by omega, by omega⟩, by omega⟩, by rw [hl]; simp⟩, ?_⟩
  unfold allB
  rw [List.all_eq_true]
  intro y hy
  have := hb y hy
  exact inB_iff.2 (by omega)
theorem FcOk.alike (h : FcOk wd dp s ks os) : alikeC wd dp s (putC wd s dp ks) wd dp s (putC wd s dp os) = true := by
  simp only [alikeC, Bool.and_eq_true, beq_self_eq_true, and_true]
  exact ⟨h.valid (putZ_length _) h.putA, h.sym.valid (putZ_length _) h.sym.putA⟩
theorem FcOk.merge (h : FcOk wd dp s ks os) : pMergeCells wd dp s (putC wd s dp ks) wd dp s (putC wd s dp os) = (((wd : Int), (dp : Int), (s : Int), bothC wd s dp ks os), true) := by
  rw [pMergeCells_yes h.alike, giveP]
  exact if_pos (h.valid2 bothC_length h.bothA)
theorem FcOk.total (h : FcOk wd dp s ks os) : pCellsTotal wd dp s (putC wd s dp ks) = ((ks.length : Int), true) := by
  have hw : 0 < wd := by have := h.w1; omega
  have := total_put (wd := wd) (s := s) (dp := dp) (ks := ks) hw (by have := h.d1; omega) ks.length (Nat.le_refl _)
  rw [List.take_length] at this
  rw [pCellsTotal, if_pos (h.valid (putZ_length _) h.putA), Int.toNat_natCast]
  exact congrArg (·, true) this
theorem FcOk.dot (h : FcOk wd dp s ks os) : ∃ d, pCellsDot wd dp s (putC wd s dp ks) wd dp s (putC wd s dp os) = (d, true) ∧ prodsN ks os 9 ≤ d := by
  have hw : 0 < wd := by have := h.w1; omega
  have hd := h.d1
  have ha : ∀ x : List Int, (∀ y ∈ x, 0 ≤ y ∧ y ≤ 1000) → allB x (-1000000) 1000000 = true := fun x hx => by
    unfold allB
    rw [List.all_eq_true]
    intro y hy
    have := hx y hy
    exact inB_iff.2 (by omega)
  refine ⟨_, by rw [pCellsDot, if_pos (by rw [h.alike, ha _ h.putA, ha _ h.sym.putA]; rfl)], ?_⟩
  refine minL_low (fun e => ?_) fun z hz => ?_
  · have := congrArg List.length e
    rw [dotsL_length, Int.toNat_natCast] at this
    simp at this
    omega
  · simp only [dotsL, Int.toNat_natCast, List.mem_map, List.mem_range] at hz
    obtain ⟨i, hi, rfl⟩ := hz
    have := prods_put (wd := wd) (s := s) (dp := dp) (i := i) (ks := ks) (os := os) (y := putC wd s dp os) hw hi h.sym.told (fun k hk => (h.kb k hk).1) 9 ks.length (Nat.le_refl _)
    rwa [List.take_length] at this
theorem FcOk.at (h : FcOk wd dp s ks os) (hl : x.length = wd * dp) (hb : ∀ y ∈ x, 0 ≤ y ∧ y ≤ 2000) {key : Int} (hk : 0 ≤ key) (hk2 : key ≤ 8) : pCellsAt wd dp s x key = (minAtM 1000000000000 x (cellsL wd s key.toNat dp), true) := by
  rw [pCellsAt, if_pos ⟨h.valid2 hl hb, inB_iff.2 (by omega)⟩]
  simp only [Int.toNat_natCast]
theorem FcOk.places (h : FcOk wd dp s ks os) (hl : x.length = wd * dp) (hb : ∀ y ∈ x, 0 ≤ y ∧ y ≤ 2000) {key : Int} (hk : 0 ≤ key) (hk2 : key ≤ 8) : pPlacesOf wd dp s x key = (cellsL wd s key.toNat dp, true) := by
  rw [pPlacesOf, if_pos ⟨h.valid2 hl hb, inB_iff.2 (by omega)⟩]
  simp only [Int.toNat_natCast]
theorem FcOk.how_le (h : FcOk wd dp s ks os) {key : Int} (hk : 0 ≤ key) : (ks.count key : Int) ≤ minAtM 1000000000000 (putC wd s dp ks) (cellsL wd s key.toNat dp) := h.told.at hk (by have := h.kl; omega)
theorem FcOk.how_car (h : FcOk wd dp s ks os) {key : Int} (hk : 0 ≤ key) : (ks.count key : Int) ≤ minAtM 1000000000000 (carC wd s dp ks) (cellsL wd s key.toNat dp) := h.toldC.at hk (by have := h.kl; omega)
theorem FcOk.car_put (h : FcOk wd dp s ks os) (key : Int) : minAtM 1000000000000 (carC wd s dp ks) (cellsL wd s key.toNat dp) ≤ minAtM 1000000000000 (putC wd s dp ks) (cellsL wd s key.toNat dp) :=
  minAtM_mono fun p hp => by
    have := car_le (wd := wd) (s := s) (dp := dp) (ks := ks) (by have := h.w1; omega) ks.length (Nat.le_refl _) p.toNat
    rwa [List.take_length] at this
theorem FcOk.how_both (h : FcOk wd dp s ks os) {key : Int} (hk : 0 ≤ key) : (ks.count key : Int) + (os.count key : Int) ≤ minAtM 1000000000000 (bothC wd s dp ks os) (cellsL wd s key.toNat dp) :=
  minAtM_low (by
    have h1 := List.count_le_length (a := key) (l := ks)
    have h2 := List.count_le_length (a := key) (l := os)
    have := h.kl; have := h.ol
    omega) fun p hp => by
    obtain ⟨i, hi, e⟩ := cellsL_mem' hp
    rw [e, both_getD]
    have h1 := h.told.how key i hk hi
    have h2 := h.sym.told.how key i hk hi
    omega
theorem FcOk.gate (h : FcOk wd dp s ks os) {kw : Int} (h1 : 1 ≤ kw) (h2 : kw ≤ 8) : gateCS wd dp s [ks, os] kw = true := by
  have hq : ∀ x : List Int, x.length ≤ 19 → (∀ k ∈ x, 0 ≤ k ∧ k ≤ 8) → keysQ x = true := fun x hx hb => by
    simp only [keysQ, Bool.and_eq_true, decide_eq_true_eq]
    refine ⟨by omega, ?_⟩
    unfold allB
    rw [List.all_eq_true]
    intro y hy
    have := hb y hy
    exact inB_iff.2 (by omega)
  simp only [gateCS, h.sides, List.length_cons, List.length_nil, List.all_cons, List.all_nil, hq ks h.kl h.kb, hq os h.ol h.ob, inB_iff.2 (show 1 ≤ kw ∧ kw ≤ 8 by omega)]
  rfl
theorem zero_addL (x : List Int) (h : x.length = wd * dp) : addL (zerosC wd dp) x = x := by
  apply List.ext_getElem?
  intro i
  simp only [addL, List.getElem?_zipWith]
  by_cases hi : i < wd * dp
  · rw [List.getElem?_replicate, if_pos hi, List.getElem?_eq_getElem (by rw [h]; exact hi)]; simp
  · rw [List.getElem?_eq_none (l := x) (by rw [h]; omega)]
    cases (zerosC wd dp)[i]? <;> rfl
theorem shared_is : sumC wd s dp [ks, os] 2 = bothC wd s dp ks os := by
  have h1 : sumC wd s dp [ks, os] 2 = addL (addL (zerosC wd dp) (putC wd s dp ks)) (putC wd s dp os) := rfl
  rw [h1, zero_addL _ (putZ_length _)]
end
theorem prodsN_hi {ks os : List Int} (h1 : ks.length ≤ 19) (h2 : os.length ≤ 19) (n : Nat) : prodsN ks os n ≤ 361 * n := by
  induction n with
  | zero => simp [prodsN]
  | succ n ih =>
    have h3 := List.count_le_length (a := (n : Int)) (l := ks)
    have h4 := List.count_le_length (a := (n : Int)) (l := os)
    have h5 : ks.count (n : Int) * os.count (n : Int) ≤ 19 * 19 := Nat.mul_le_mul (by omega) (by omega)
    have h6 : ((ks.count (n : Int) : Int) * (os.count (n : Int) : Int)) = ((ks.count (n : Int) * os.count (n : Int) : Nat) : Int) := by rw [Int.natCast_mul]
    simp only [prodsN]
    rw [h6]
    omega
end Go.Proofs.Ytmmolicodlmlkaa
namespace Go.Proofs.Ytmmolicodlmlkaa
open Go.RowKit
open Go.Proofs.Ytmmolicodlmlkaa.Rel (Ints)
set_option linter.unusedVariables false

/-- The block of an own slice holds numbers alone. -/
def IntsV (w : World) (v : Value) : Prop := ∀ g, v.ownBlock = some g → Ints w g
theorem IntsV.made {w : World} {e : TypeId} : IntsV (w.alloc (.cells #[] e)) (.slice (some ⟨w.heap.size, 0, none⟩) 0 0) := fun g hg => by
  obtain rfl : w.heap.size = g := by injection hg
  exact ⟨#[], e, heap_alloc_new w _, by simp⟩
theorem IntsV.alloc {w : World} {v : Value} (h : IntsV w v) (o : Obj) : IntsV (w.alloc o) v := fun g hg => by
  obtain ⟨c, e, h1, h2⟩ := h g hg
  exact ⟨c, e, (heap_alloc_old w o (Array.getElem?_eq_some_iff.1 h1).1).trans h1, h2⟩
theorem zero_ints {n : Nat} : ∀ x ∈ Builtin.zeroCells #[Value.int .i64 0] n, ∃ i, x = .int .i64 i := by
  intro x hx
  simp [Builtin.zeroCells, Nat.mod_one] at hx
  obtain ⟨_, _, rfl⟩ := hx
  exact ⟨0, rfl⟩
end Go.Proofs.Ytmmolicodlmlkaa
namespace Go.Proofs.Ytmmolicodlmlkaa
open Go.RowKit
open Go.Proofs.Ytmmolicodlmlkaa.Rel (Ints IntsA ops_upto lastOk lastOk_sound linearise_same)
set_option linter.unusedVariables false
set_option linter.unusedSimpArgs false

/-- A list that is returned in a block of the call's own, which holds just it. -/
def RetLN {α : Type} (f : α → Value) (t : TypeId) (w : World) (xs : List α) (e : Ending) (w' : World) : Prop :=
  ∃ A c, e = .returned (.slice A xs.length c) ∧ OwnS f w' w.heap.size t A xs ∧ (∀ a, A = some a → w.heap.size ≤ a.block ∧ IntsA w' a) ∧ Below w.heap.size w w'
theorem ownS_of_rowN {α : Type} {f : α → Value} {w : World} {B : Nat} {e : TypeId} {v : Value} {n : Nat} {xs : List α} (h : w.ownsRow B e 1 v n (xs.map f)) (hI : IntsV w v) (hl : xs.length = n) :
    ∃ A c, v = .slice A xs.length c ∧ OwnS f w B e A xs ∧ ∀ a, A = some a → B ≤ a.block ∧ IntsA w a := by
  have h0 := h
  subst hl
  obtain ⟨A, c, hv, ho⟩ := ownS_of_row h0 rfl
  refine ⟨A, c, hv, ho, fun a ha => ?_⟩
  obtain ⟨hn, h | ⟨g, cap, cur, hv', hB, hg, hc, hm, hs, ht⟩⟩ := h
  · rw [h.1] at hv
    injection hv with h1
    rw [ha] at h1
    cases h1
  · rw [hv'] at hv
    injection hv with h1
    rw [ha] at h1
    injection h1 with h1
    subst h1
    exact ⟨hB, hI _ (by rw [hv']; rfl), rfl⟩
end Go.Proofs.Ytmmolicodlmlkaa
namespace Go.Proofs.Ytmmolicodlmlkaa
open Go.RowKit
open Go.Proofs.Ytmmolicodlmlkaa.Rel (ops_upto lastOk lastOk_sound linearise_same)
open Go.Conc (base enter_at)
set_option linter.unusedVariables false
set_option linter.unusedSimpArgs false

end Go.Proofs.Ytmmolicodlmlkaa
namespace Go.Proofs.Ytmmolicodlmlkaa.Ph
open Go.Conc Go.RowKit
open Go.Proofs.Ytmmolicodlmlkaa.Rel
set_option linter.unusedVariables false

/-- Another rely, another guarantee, another reckoning of what is its own, under what stands at every step. -/
theorem go1_map {σ σ' : Type} (φ : σ → σ') {P : Program} {main : Bool} {R : σ → World → World → Prop} {R' : σ' → World → World → Prop} {D : σ → World → World → Array Event → σ → Prop} {D' : σ' → World → World → Array Event → σ' → Prop} {Stop : σ → Goroutine → World → Prop} {I : σ → World → Prop}
    (hR : ∀ s a b, I s a → R' (φ s) a b → R s a b) (hI : ∀ s a b, R' (φ s) a b → I s a → I s b) (hD : ∀ s a b es s', I s a → D s a b es s' → D' (φ s) a b es (φ s') ∧ I s' b) {s : σ} {g : Goroutine} {w : World} (hi : I s w) (h : Go1 P main R D Stop s g w) :
    Go1 P main R' D' (fun t g w => ∃ s, t = φ s ∧ I s w ∧ Stop s g w) (φ s) g w := by
  obtain ⟨T, h⟩ := h
  induction T generalizing s g w with
  | leaf => exact .stop fun w₁ h₁ => ⟨s, rfl, hI _ _ _ h₁ hi, h w₁ (hR _ _ _ hi h₁)⟩
  | node f ih =>
    refine .intro fun w₁ h₁ => ?_
    have hi1 := hI _ _ _ h₁ hi
    rcases h w₁ (hR _ _ _ hi h₁) with h2 | ⟨hr, g', w', es, s', h2, h3, h4⟩
    · exact .inl ⟨s, rfl, hi1, h2⟩
    · obtain ⟨h5, h6⟩ := hD _ _ _ _ _ hi1 h3
      exact .inr ⟨hr, g', w', es, φ s', h2, h5, ih w₁ h6 h4⟩
section
variable {P : Program} {fs : FuncId → Bool} {v : World} {Rd S : Nat → Prop} {C : Nat} {cs : List Frame} {main : Bool}
/-- What may be named, where one block is named alone. -/
noncomputable abbrev fnsC (fs : FuncId → Bool) (v : World) (Rd S : Nat → Prop) (C : Nat) : Fns := fnsNa fs v (fun b => S b ∨ Rd b) S (fun b => b = C)
theorem fnsC_al {b : Nat} (hb : b < v.heap.size) (h : (fnsC fs v Rd S C).al b = true) (hn : (fnsC fs v Rd S C).na b = false) : (S b ∨ Rd b) ∧ plainO v.heap[b]? = true := by
  classical
  simp only [fnsC, fnsNa, decide_eq_false_iff_not] at hn
  simp only [fnsC, fnsNa, hb, if_true, hn, decide_false, Bool.false_or, Bool.and_eq_true, decide_eq_true_eq] at h
  exact h
theorem fnsC_na {b : Nat} : (fnsC fs v Rd S C).na b = true ↔ b = C := by
  classical
  simp only [fnsC, fnsNa, decide_eq_true_eq]
theorem fnsC_new {b : Nat} (hC : C < v.heap.size) (hb : v.heap.size ≤ b) : (fnsC fs v Rd S C).al b = true ∧ (fnsC fs v Rd S C).wr b = true ∧ (fnsC fs v Rd S C).na b = false := by
  classical
  have h1 : ¬ b < v.heap.size := by omega
  have h2 : ¬ b = C := by omega
  simp [fnsC, fnsNa, h1, h2]
theorem fnsC_old {b : Nat} (hb : b < v.heap.size) (ha : S b ∨ Rd b) (hp : plainO v.heap[b]? = true) : (fnsC fs v Rd S C).al b = true := by
  classical
  simp only [fnsC, fnsNa, hb, if_true, ha, decide_true, hp, Bool.and_self, Bool.or_true]
theorem fnsC_no {b : Nat} (hb : b < v.heap.size) : (fnsC fs v Rd No C).wr b = false := by
  classical
  simp only [fnsC, fnsNa, hb, if_true, decide_eq_false_iff_not]
  exact id
theorem fnsC_C (hb : C < v.heap.size) : (fnsC fs v Rd S C).al C = true := by
  classical
  simp only [fnsC, fnsNa, hb, if_true, decide_true, Bool.true_or]
theorem left_relyB {Fs : Fns} {S0 S1 : Nat → Prop} {Bd : Nat → Prop} {ρ : Rn} {wl w w₁ : World} (h : Rel.Left P Fs v Rd S0 ρ wl S1 w) (hal : ∀ b, b < v.heap.size → Fs.al b = true → Fs.na b = false → S0 b ∨ Rd b) (hna : ∀ b, Fs.na b = true → b < v.heap.size ∧ Bd b) (r : RSB Bd Rd S1 w w₁) : Rel.Left P Fs v Rd S0 ρ wl S1 w₁ := by
  refine ⟨h.id, h.new, h.wr.relyN (fun c hc hca hcn => ?_) (fun c hc hcn => ?_), h.low, h.mine, r.tape.trans h.tape, r.os.trans h.os, r.output.trans h.output, Nat.le_trans h.size r.size, fun b hb => (r.rd b hb).trans (h.rd b hb)⟩
  · show w₁.heap[ρ.f c]? = w.heap[ρ.f c]?
    rcases Nat.lt_or_ge c v.heap.size with hb | hb
    · rw [h.id c hb]
      rcases hal c hb hca hcn with h1 | h1
      · exact r.own c ((h.mine c).2 (.inl h1))
      · exact r.rd c h1
    · exact r.own _ ((h.mine _).2 (.inr ⟨c, hb, hc, rfl⟩))
  · obtain ⟨q1, q2⟩ := hna c hcn
    show ∀ cc e fr, w.heap[ρ.f c]? = _ → ∃ c' fr', w₁.heap[ρ.f c]? = _
    rw [h.id c q1]
    exact fun cc e fr hh => r.bd c q2 cc e fr hh
/-- What is read, where nothing that is there already is written: what others read too, what this one has made. -/
abbrev RdS (Rd S : Nat → Prop) : Nat → Prop := fun b => Rd b ∨ S b
/-- ████ A REGION UP TO AN OPERATION, BY A WORKER: what there was stands. ████ -/
theorem upto_worker {ty : TypeId} {Wg : Nat} {mine : Nat → Prop} {f : FuncId} {c : Code} {a : Act} {ops : Array Oper} {rest : List Nat} {Pre : Act → World → Prop} (hz : ZeroOk P) (hG : P.globals.size ≤ v.heap.size) (hO : ∀ ρ, FnsOk ⟨P, ρ, fnsC fs v (RdS Rd S) No C⟩) (hS : ∀ b, S b → b < v.heap.size) (hR : ∀ b, Rd b → b < v.heap.size)
    (hC : C < v.heap.size) (hCc : ∃ c e fr, v.heap[C]? = some (.cells c e fr)) (hc : codeOk P (fnsC fs v (RdS Rd S) No C) c = true) (hd : a.defers = []) (ha : ∀ x ∈ a.tmps, okV (fnsC fs v (RdS Rd S) No C) v.heap.size x = true)
    (hl : ∀ (τ : Nat → Question → Nat) (b : Frame) (cs : List Frame), ∃ a' w', Pre a' w' ∧ Steps P (lone (b.at a [.code c]) cs { loneW (fnsC fs v (RdS Rd S) No C) v with tape := τ, drawn := 0 }) (lone (b.at a' [.inRegion ops rest]) cs w')) :
    GW P ty Wg C mine Rd (fun S' g w => ∃ s ρ a' wl, S' = (fun b => S b ∨ s b) ∧ g = G ((base f).at ⟨a'.tmps.map (ren ρ), []⟩ [.inRegion ops rest]) cs ∧ Pre a' wl ∧ (∀ x ∈ a'.tmps, okJ (fnsC fs v (RdS Rd S) No C) wl.heap.size x = true) ∧ Rel.Left P (fnsC fs v (RdS Rd S) No C) v (RdS Rd S) No ρ wl s w ∧ OutStay C mine v w) S (G ((base f).at a [.code c]) cs) v := by
  have hal : ∀ b, b < v.heap.size → (fnsC fs v (RdS Rd S) No C).al b = true → (fnsC fs v (RdS Rd S) No C).na b = false → (No b ∨ RdS Rd S b) ∧ plainO v.heap[b]? = true := fun b hb h hn => fnsC_al hb h hn
  have hnew : ∀ b, v.heap.size ≤ b → (fnsC fs v (RdS Rd S) No C).al b = true ∧ (fnsC fs v (RdS Rd S) No C).wr b = true ∧ (fnsC fs v (RdS Rd S) No C).na b = false := fun b hb => fnsC_new hC hb
  have hna : ∀ b, (fnsC fs v (RdS Rd S) No C).na b = true → b = C := fun b h => fnsC_na.1 h
  have hCal : (fnsC fs v (RdS Rd S) No C).al C = true := fnsC_C hC
  have hwr : ∀ b, b < v.heap.size → (fnsC fs v (RdS Rd S) No C).wr b = true → No b := by
    classical
    intro b hb h
    simpa only [fnsC, fnsNa, hb, if_true, decide_eq_true_eq] using h
  generalize fnsC fs v (RdS Rd S) No C = Fs at *
  let StopL : Frame → List Frame → World → Prop := fun fl cl w => ∃ a', fl = (base f).at a' [.inRegion ops rest] ∧ cl = [badF] ∧ Pre a' w
  have U : Setup P Fs v.heap.size [] [] cs ((base f).at a [.code c]) ((base f).at a [.code c]) [badF] cs (loneW Fs v) v (fun b => b = C) (RdS Rd S) No StopL :=
    { hz := hz, hO := hO, hG := hG, hk := .inl ⟨rfl, rfl⟩,
      hST := fun ρ hρ => .last (by
        refine ⟨rfl, ⟨?_, fun x hx => okV_okJ _ _ _ (ha x hx)⟩, ⟨[.code c], [], [], rfl, rfl, fun it hit => by simp at hit; rw [hit]; exact hc, .here⟩, hd, hd, .inl ⟨rfl, rfl⟩, rfl, rfl, rfl, rfl⟩
        apply Array.ext (by simp [Frame.at])
        intro i h1 h2
        rw [Array.getElem_map]
        exact (ren_agree hρ _ (ha _ (Array.getElem_mem h1))).symm),
      hwl := loneW_size, hv := rfl, hW := fun ρ hρ => loneW_wr (fun b hb h hn => (hal b hb h hn).2) hnew (fun b h => by
        obtain rfl := hna b h
        exact ⟨hCal, hCc⟩) ρ hρ,
      hal := fun b hb h hn => (hal b hb h hn).1, hna := fun b h => (by rw [hna b h]; exact ⟨hC, rfl, id⟩), hwr := fun b hb _ h => hwr b hb h, hS0 := fun b h => h.elim, hRd := fun b hb => ⟨hb.elim (hR b) (hS b), id⟩,
      hTerm := fun τ => by
        obtain ⟨a', w', hp, M, hM⟩ := hl τ (base f) [badF]
        exact ⟨M, _, _, w', hM, a', rfl, rfl, hp⟩,
      hSL := fun fl cl w ⟨a', h1, h2, _⟩ => ⟨fun ch e => (by rw [h1] at e; cases e), (by rw [h2]; simp)⟩ }
  have h1 := transferB (main := false) U
  have hRB : ∀ (s : Nat → Prop) (a b : World), RW ty Wg C mine Rd (fun b => S b ∨ s b) a b → RSB (fun b => b = C) (RdS Rd S) s a b := fun s a b r =>
    ⟨⟨r.tape, r.os, r.output, r.size, fun y hy => r.own y (.inr hy), fun y hy => hy.elim (r.rd y) fun h => r.own y (.inl h)⟩, fun x hx cc e fr hh => by
      subst hx
      obtain ⟨cs', q1, _, _⟩ := r.out cc e fr hh
      exact ⟨cs', fr, q1⟩⟩
  have h2 : GW P ty Wg C mine Rd (fun t g w => ∃ s, t = (fun b => S b ∨ s b) ∧ (¬ s C ∧ C < w.heap.size ∧ (∀ b, S b → b < w.heap.size ∧ ¬ s b) ∧ OutStay C mine v w) ∧ StopC P Fs v.heap.size [] [] cs v (RdS Rd S) No StopL s g w) (fun b => S b ∨ No b) (G ((base f).at a [.code c]) cs) v := by
    refine go1_map (φ := fun (s : Nat → Prop) b => S b ∨ s b) (R' := RW ty Wg C mine Rd) (D' := DW Wg C mine Rd) (I := fun s w => ¬ s C ∧ C < w.heap.size ∧ (∀ b, S b → b < w.heap.size ∧ ¬ s b) ∧ OutStay C mine v w) (fun s a b _ r => hRB s a b r)
      (fun s a b r hi => ⟨hi.1, Nat.lt_of_lt_of_le hi.2.1 r.size, fun y hy => ⟨Nat.lt_of_lt_of_le (hi.2.2.1 y hy).1 r.size, (hi.2.2.1 y hy).2⟩, hi.2.2.2.trans r.out⟩) (fun s a b es s' hi d => ?_) ⟨id, hC, fun b hb => ⟨hS b hb, id⟩, .refl _ _ _⟩ h1
    obtain ⟨i1, i2, i3, i4⟩ := hi
    have no : ∀ y, y < a.heap.size → ¬ s y → ¬ s' y := fun y hy hn hs' => ((d.own y).1 hs').elim hn fun h => by omega
    refine ⟨⟨d.tape, d.os, d.output, d.size, fun y => ?_, fun y hy hn _ => d.old y hy fun h => hn (.inr h), .of_block (d.old C i2 i1), fun e he => .inl ?_⟩, no C i2 i1, Nat.lt_of_lt_of_le i2 d.size, fun y hy => ⟨Nat.lt_of_lt_of_le (i3 y hy).1 d.size, no y (i3 y hy).1 (i3 y hy).2⟩, i4.trans (.of_block (d.old C i2 i1))⟩
    · have := d.own y
      constructor
      · rintro (h | h)
        · exact .inl (.inl h)
        · exact (this.1 h).imp .inr id
      · rintro ((h | h) | h)
        · exact .inl h
        · exact .inr (this.2 (.inl h))
        · exact .inr (this.2 (.inr h))
    · rcases d.evs e he with ⟨ad, l1, l2, l3⟩ | ⟨r, l1, l2, l3⟩ | l
      · refine .inl ⟨ad, l1, ?_, l3⟩
        rcases l2 with l2 | ⟨l2 | l2, l4⟩
        · exact .inl (.inr l2)
        · exact .inr ⟨l2, l4⟩
        · exact .inl (.inl l2)
      · refine .inr (.inl ⟨r, l1, ?_, l3⟩)
        rcases l2 with l2 | l2 | l2
        · exact .inl (.inr l2)
        · exact .inr l2
        · exact .inl (.inl l2)
      · exact .inr (.inr l)
  have e0 : (fun b => S b ∨ No b) = S := by funext b; simp [No]
  rw [e0] at h2
  refine Go1.bind (fun _ a => RW.refl a) h2 ?_
  rintro S' g w ⟨s, rfl, hi, ρ, fl, cl, wl, hA, a', rfl, rfl, hp⟩
  refine Go1.stop fun w₁ h₁ => ?_
  obtain ⟨fc, cc, rfl, hst⟩ := hA.st
  have hfr : FR ⟨P, ρ, Fs⟩ wl.heap.size [] [] ((base f).at a' [.inRegion ops rest]) fc ∧ cc = cs := by
    rcases hst.fr with ⟨h, _, h2⟩ | ⟨_, _, _, h⟩
    · exact ⟨h, h2⟩
    · exfalso
      cases h with
      | cons _ _ _ h => cases h
  obtain ⟨hfr, rfl⟩ := hfr
  have htodo : fc.todo = [.inRegion ops rest] := by
    obtain ⟨its, tl, tc, t1, t2, _, hT⟩ := hfr.todo
    have t1 : [Item.inRegion ops rest] = its ++ tl := t1
    cases hT with
    | here =>
      rw [List.append_nil] at t1 t2
      rw [t2, t1]
    | seq _ _ =>
      cases its with
      | nil => simp at t1
      | cons x its => cases its <;> simp at t1
  have hm : fc.mode = .run := by
    rcases hfr.mode with ⟨_, h⟩ | ⟨h, _⟩
    · exact h
    · cases h
  have hL : Rel.Left P Fs v (RdS Rd S) No ρ wl s w := ⟨hA.id, hA.new, hA.wr, hA.low, hA.mine, hA.tape, hA.os, hA.output, hA.size, hA.rd⟩
  refine ⟨s, ρ, a', wl, rfl, ?_, hp, hfr.tmps.2, left_relyB (Bd := fun b => b = C) hL (fun b hb h hn => (hal b hb h hn).1) (fun b h => (by rw [hna b h]; exact ⟨hC, rfl⟩)) (hRB s _ _ h₁), hi.2.2.2.trans h₁.out⟩
  have e : fc = (base f).at ⟨a'.tmps.map (ren ρ), []⟩ [.inRegion ops rest] := by
    have h1 := hfr.fn
    have h2 := hfr.tmps.1
    have h3 := hfr.defc
    have h4 := hfr.kindc
    have h5 := hfr.roc
    obtain ⟨q1, q2, q3, q4, q5, q6, q7⟩ := fc
    simp only at h1 h2 h3 h4 h5 htodo hm
    subst h1; subst h2; subst h3; subst h4; subst h5; subst htodo; subst hm
    rfl
  rw [e]
end
section
variable {P : Program} {Fs : Fns} {v w wl : World} {Rd S0 S : Nat → Prop} {ρ : Rn}
/-- A block that the lone walk has made or turned, in company. -/
theorem left_blk (h : Rel.Left P Fs v Rd S0 ρ wl S w) {b : Nat} {c : Array Value} {e : TypeId} (ha : Fs.al b = true) (hb : wl.heap[b]? = some (.cells c e (0, 0))) : w.heap[ρ.f b]? = some (.cells (c.map (ren ρ)) e (0, 0)) ∧ ∀ x ∈ c, okJ Fs wl.heap.size x = true := by
  obtain ⟨ol, oc, h1, h2, h3⟩ := h.wr.blk b (Array.getElem?_eq_some_iff.1 hb).1 ha
  rw [hb] at h1
  obtain rfl := Option.some.inj h1
  have h2' : w.heap[ρ.f b]? = some oc := h2
  rw [h2']
  generalize ho : Obj.cells c e (0, 0) = o at h3
  cases h3 with
  | cells _ hc => injection ho with e1 e2; subst e1; subst e2; exact ⟨rfl, hc⟩
  | ro hc h0 => injection ho with e1 e2 e3; subst e1; subst e2; injection e3 with _ e4; obtain rfl := h0 e4.symm; exact ⟨rfl, hc⟩
  | bad => injection ho with e1 e2 e3; injection e3 with _ e4; cases e4
  | dull hd => cases oc <;> simp [stand] at ho hd
  | number => cases ho
theorem left_new (h : Rel.Left P Fs v Rd S0 ρ wl S w) {b : Nat} (h1 : v.heap.size ≤ b) (h2 : b < wl.heap.size) : S (ρ.f b) ∧ v.heap.size ≤ ρ.f b := ⟨(h.mine _).2 (.inr ⟨b, h1, h2, rfl⟩), h.new b h1⟩
theorem left_low (h : Rel.Left P Fs v Rd S0 ρ wl S w) (hal : ∀ b, v.heap.size ≤ b → Fs.al b = true) (hS : ∀ b, S0 b → b < v.heap.size) {b : Nat} (hb : S b) : b < w.heap.size := by
  rcases (h.mine b).1 hb with h1 | ⟨c, h1, h2, rfl⟩
  · exact Nat.lt_of_lt_of_le (hS b h1) h.size
  · obtain ⟨_, oc, _, h4, _⟩ := h.wr.blk c h2 (hal c h1)
    exact (Array.getElem?_eq_some_iff.1 h4).1
end
end Go.Proofs.Ytmmolicodlmlkaa.Ph
namespace Go.Proofs.Ytmmolicodlmlkaa.Ph
open Go.Conc Go.ConcN Go.RowKit Go.Conc.Lib Go.ConcR.Gen Go.ConcN.Gen
open Go.ConcR (KK wgBlock WgAt stA smA rd wr mk DC0 Payload)
open Go.Proofs.Ytmmolicodlmlkaa.Rel
set_option linter.unusedVariables false
set_option linter.unusedSimpArgs false

/-- The rows of some numbers lie in blocks of S, each in its own. -/
def RowsIn (lo C : Nat) (x sl : List Int) (D : Nat → Prop) (S : Nat → Prop) (w : World) : Prop :=
  ∃ (R : Nat → Option Addr) (cc : Nat → Nat),
    (∀ o, D o → w.cell? ⟨C, o, none⟩ = some (.slice (R o) x.length (cc o)) ∧ OwnS (Value.int .i64) w lo 2 (R o) (rowH x (sl.getD o 0).toNat x.length) ∧ ∀ a, R o = some a → S a.block ∧ IntsA w a) ∧
    (∀ o o' a a', D o → D o' → R o = some a → R o' = some a' → a.block = a'.block → o = o')
theorem out_cell {C : Nat} {mine : Nat → Prop} {w w₁ : World} {o : Nat} {v : Value} (h : OutStay C mine w w₁) (hm : mine o) (hc : w.cell? ⟨C, o, none⟩ = some v) : w₁.cell? ⟨C, o, none⟩ = some v := by
  unfold World.cell? at hc ⊢
  simp only at hc ⊢
  cases hb : w.heap[C]? with
  | none => rw [hb] at hc; cases hc
  | some ob =>
    rw [hb] at hc
    cases ob <;> first | (simp at hc; done) | skip
    rename_i cs e fr
    obtain ⟨cs', h1, _, h3⟩ := h cs e fr hb
    rw [h1]
    simp only at hc ⊢
    simp only [Option.isSome_none, Bool.false_eq_true, if_false] at hc ⊢
    rw [h3 o hm]; exact hc
section
variable {Shun : Loc → Prop} {w0 w w₁ : World} {A A2 : Option Addr} {c c2 C bk bs bo lo k j i n : Nat} {x sl : List Int} {D D' S S' mine Rd : Nat → Prop}
theorem RowsIn.sub (h : RowsIn lo C x sl D S w) (hD : ∀ o, D' o → D o) : RowsIn lo C x sl D' S w :=
  let ⟨R, cc, h1, h2⟩ := h
  ⟨R, cc, fun o ho => h1 o (hD o ho), fun o o' a a' ho ho' => h2 o o' a a' (hD o ho) (hD o' ho')⟩
theorem RowsIn.stay (h : RowsIn lo C x sl D S w) (hS : ∀ b, S b → w₁.heap[b]? = w.heap[b]?) (hC : OutStay C mine w w₁) (hD : ∀ o, D o → mine o) (hSS : ∀ b, S b → S' b) : RowsIn lo C x sl D S' w₁ := by
  obtain ⟨R, cc, h1, h2⟩ := h
  refine ⟨R, cc, fun o ho => ?_, h2⟩
  obtain ⟨q1, q2, q3⟩ := h1 o ho
  refine ⟨out_cell hC (hD o ho) q1, fun hne => ?_, fun a ha => ?_⟩
  · obtain ⟨g, ex, e1, e2, e3⟩ := q2 hne
    exact ⟨g, ex, e1, e2, (hS g (q3 _ e1).1).trans e3⟩
  · obtain ⟨s1, s2⟩ := q3 a ha
    exact ⟨hSS _ s1, s2.stay (hS _ s1)⟩
theorem U0.rely (h : U0 Shun C w0 w) (hR : ∀ x, FreeB Shun w0 x ∧ x ≠ C → Rd x) {ty : TypeId} {Wg : Nat} (r : RW ty Wg C mine Rd S w w₁) : U0 Shun C w0 w₁ :=
  ⟨⟨r.tape.trans h.1.1, r.os.trans h.1.2.1, r.output.trans h.1.2.2⟩, fun x hx hC => (r.rd x (hR x ⟨hx, hC⟩)).trans (h.2.1 x hx hC), h.2.2.trans (r.out.weaken fun _ h => h.elim)⟩
/-- What a worker holds ahead of number i. -/
def JR (Shun : Loc → Prop) (C : Nat) (w0 : World) (x sl : List Int) (k j i : Nat) (S : Nat → Prop) (w : World) : Prop :=
  U0 Shun C w0 w ∧ (∀ b, S b → w0.heap.size ≤ b) ∧ i % k = j ∧ RowsIn w0.heap.size C x sl (fun o => o < i ∧ o % k = j) S w
theorem JR.rely {ty : TypeId} {Wg : Nat} (h : JR Shun C w0 x sl k j i S w) (hR : ∀ x, FreeB Shun w0 x ∧ x ≠ C → Rd x) (r : RW ty Wg C (fun o => o % k = j) Rd S w w₁) : JR Shun C w0 x sl k j i S w₁ :=
  ⟨h.1.rely hR r, h.2.1, h.2.2.1, h.2.2.2.stay r.own r.out (fun o ho => ho.2) fun _ h => h⟩
theorem mod_next {o i k j : Nat} (h1 : o % k = j) (h2 : i % k = j) (h3 : i ≤ o) (h4 : o < i + k) : o = i := by
  have h5 := Nat.sub_mod_eq_zero_of_mod_eq (h1.trans h2.symm)
  rw [Nat.mod_eq_of_lt (by omega)] at h5
  omega
end
end Go.Proofs.Ytmmolicodlmlkaa.Ph
namespace Go.Proofs.Ytmmolicodlmlkaa.Ph
open Go.Conc Go.ConcN Go.RowKit Go.Conc.Lib Go.ConcR.Gen Go.ConcN.Gen
open Go.ConcR (KK wgBlock WgAt stA smA rd wr mk DC0 Payload)
open Go.Proofs.Ytmmolicodlmlkaa.Rel
set_option linter.unusedVariables false
set_option linter.unusedSimpArgs false

theorem zero_ok : ZeroOk Try.prog := zeroOk_of (by kernel_rfl)
section
variable {Wg C : Nat} {mine Rd S : Nat → Prop} {w : World}
end
theorem rdl_stay {w v : World} {A : Option Addr} {x : List Int} (h : RdL (Value.int .i64) w A x) (hs : ∀ a, A = some a → v.heap[a.block]? = w.heap[a.block]?) : RdL (Value.int .i64) v A x := by
  intro j hj
  obtain ⟨b, o, hA, hc⟩ := h j hj
  exact ⟨b, o, hA, (cell_stay (a := ⟨b, o + j, none⟩) (show v.heap[b]? = w.heap[b]? from hs _ hA)).trans hc⟩
theorem cell0 {w : World} {b : Nat} {v : Value} {t : TypeId} {fr : Nat × Nat} (h : w.heap[b]? = some (.cells #[v] t fr)) : w.cell? ⟨b, 0, none⟩ = some v := by simp [World.cell?, h]
section
variable {Shun : Loc → Prop} {w0 v : World} {A A2 : Option Addr} {c c2 C bk bs bo k j i Wg : Nat} {x sl : List Int} {S Rd : Nat → Prop}
end
end Go.Proofs.Ytmmolicodlmlkaa.Ph
namespace Go.Proofs.Ytmmolicodlmlkaa.Ph
open Go.Conc Go.ConcN Go.RowKit Go.Conc.Lib Go.ConcR.Gen Go.ConcN.Gen
open Go.ConcR (KK wgBlock WgAt stA smA rd wr mk DC0 Payload)
open Go.Proofs.Ytmmolicodlmlkaa.Rel
set_option linter.unusedVariables false
set_option linter.unusedSimpArgs false

section
variable {Shun : Loc → Prop} {w0 v : World} {A A2 : Option Addr} {c c2 C bk bs bo k j i Wg : Nat} {x sl : List Int} {S Rd : Nat → Prop}
/-- The new row, ahead of its store. -/
def NewRow (lo B : Nat) (x : List Int) (s : Nat) (R : Option Addr) (S : Nat → Prop) (w : World) : Prop :=
  OwnS (Value.int .i64) w lo 2 R (rowH x s x.length) ∧ ∀ a, R = some a → S a.block ∧ B ≤ a.block ∧ IntsA w a
theorem NewRow.rely {lo B s : Nat} {R : Option Addr} {w w₁ : World} (h : NewRow lo B x s R S w) (hS : ∀ b, S b → w₁.heap[b]? = w.heap[b]?) : NewRow lo B x s R S w₁ := by
  refine ⟨fun hne => ?_, fun a ha => ?_⟩
  · obtain ⟨g, ex, e1, e2, e3⟩ := h.1 hne
    exact ⟨g, ex, e1, e2, (hS g (h.2 _ e1).1).trans e3⟩
  · obtain ⟨q1, q2, q3⟩ := h.2 a ha
    exact ⟨q1, q2, q3.stay (hS _ q1)⟩
end
end Go.Proofs.Ytmmolicodlmlkaa.Ph
namespace Go.Proofs.Ytmmolicodlmlkaa.Ph
open Go.Conc Go.RowKit
open Go.Proofs.Ytmmolicodlmlkaa.Rel
set_option linter.unusedVariables false

section
variable {P : Program} {fs : FuncId → Bool} {v : World} {F W : Nat → Prop} {cs : List Frame} {Stop : (Nat → Prop) → Goroutine → World → Prop} {g : Goroutine} {w : World}
/-- What is read alone is its own too, beside leavers. -/
theorem gl_of (hsub : ∀ b, W b → F b) (h : Go1 P true (RS (fun b => F b ∧ ¬ W b)) (DS (fun b => F b ∧ ¬ W b)) Stop W g w) : GL P (fun t g w => ∃ s, t = (fun b => (F b ∧ ¬ W b) ∨ s b) ∧ Stop s g w) F g w := by
  have h1 := go1_map (φ := fun (s : Nat → Prop) b => (F b ∧ ¬ W b) ∨ s b) (R' := RS No) (D' := DS No) (I := fun _ _ => True)
    (fun s a b _ r => ⟨r.tape, r.os, r.output, r.size, fun y hy => r.own y (.inr hy), fun y hy => r.own y (.inl hy)⟩) (fun _ _ _ _ _ => trivial) (fun s a b es s' _ d => ⟨⟨d.tape, d.os, d.output, d.size, fun y => ?_, fun y hy hn => d.old y hy fun h => hn (.inr h), fun e he => ?_⟩, trivial⟩) trivial h
  · have e0 : (fun b => (F b ∧ ¬ W b) ∨ W b) = F := by
      funext b
      apply propext
      by_cases hb : W b
      · simp [hb, hsub b hb]
      · simp [hb]
    rw [e0] at h1
    obtain ⟨T, h1⟩ := h1
    exact ⟨T, h1.mono (fun _ _ _ h => h) (fun _ _ _ _ _ h => h) fun t g w ⟨s, e, _, hs⟩ => ⟨s, e, hs⟩⟩
  · have := d.own y
    constructor
    · rintro (h | h)
      · exact .inl (.inl h)
      · exact (this.1 h).imp .inr id
    · rintro ((h | h) | h)
      · exact .inl h
      · exact .inr (this.2 (.inl h))
      · exact .inr (this.2 (.inr h))
  · rcases d.evs e he with ⟨ad, l1, l2, l3⟩ | ⟨r, l1, l2, l3⟩ | l
    · exact .inl ⟨ad, l1, .inl (l2.elim .inr fun h => .inl h.1), l3⟩
    · exact .inr (.inl ⟨r, l1, .inl (l2.elim .inr .inl), l3⟩)
    · exact .inr (.inr l)
/-- The lone walk through the first n statements comes to a return. -/
def Rets (P : Program) (f : FuncId) (n : Nat) (c : Code) (Post : Value → World → Prop) (a : Act) (w : World) : Prop :=
  (cut n c).1.wp P (fun e a' w' => e = .ret ∧ a'.defers = [] ∧ ∃ fn v, P.funcs[f]? = some fn ∧ (results fn a'.tmps).run P w' = .ok v w' ∧ Post v w') a w
end
section
variable {P : Program} {fs : FuncId → Bool} {v : World} {Rd S : Nat → Prop} {cs : List Frame} {main : Bool}
/-- ████ TO A RETURN AHEAD OF A CUT, IN COMPANY. ████ -/
theorem ret_company {f : FuncId} {fn0 : Func} {c : Code} {n : Nat} {a : Act} {Q : Value → World → Prop} (hz : ZeroOk P) (hG : P.globals.size ≤ v.heap.size) (hO : ∀ ρ, FnsOk ⟨P, ρ, fnsOf fs v (fun b => S b ∨ Rd b) S⟩) (hS : ∀ b, S b → b < v.heap.size) (hR : ∀ b, Rd b → b < v.heap.size ∧ ¬ S b)
    (hf0 : P.funcs[f]? = some fn0) (hres0 : fn0.results.all resOk = true) (hsp : spineOk P (fnsOf fs v (fun b => S b ∨ Rd b) S) n c = true) (hd : a.defers = []) (ha : ∀ x ∈ a.tmps, okV (fnsOf fs v (fun b => S b ∨ Rd b) S) v.heap.size x = true)
    (hl : ∀ τ, Rets P f n c Q a { loneW (fnsOf fs v (fun b => S b ∨ Rd b) S) v with tape := τ, drawn := 0 }) :
    Go1 P main (RS Rd) (DS Rd) (RetC P (fnsOf fs v (fun b => S b ∨ Rd b) S) v Rd S f cs Q) S (G ((base f).at a [.code c]) cs) v := by
  classical
  have hal : ∀ b, b < v.heap.size → (fnsOf fs v (fun b => S b ∨ Rd b) S).al b = true → (S b ∨ Rd b) ∧ plainO v.heap[b]? = true := by
    intro b hb h
    simp only [fnsOf, hb, if_true, Bool.and_eq_true, decide_eq_true_eq] at h
    exact h
  have hwrs : ∀ b, b < v.heap.size → (fnsOf fs v (fun b => S b ∨ Rd b) S).wr b = true → S b := by
    intro b hb h
    simpa only [fnsOf, hb, if_true, decide_eq_true_eq] using h
  generalize hFs : fnsOf fs v (fun b => S b ∨ Rd b) S = Fs at *
  let StopL : Frame → List Frame → World → Prop := fun fl cl w => ∃ u, Q u w ∧ cl = [badF] ∧ fl.fn = f ∧ fl.leaving P w (.returned u)
  have U := setup_lone (P := P) (fs := fs) (v := v) (Rd := Rd) (S := S) (cs := cs) (kl := [.code (.refuse "")]) (kc := [.code (cut n c).2]) (fl0 := (base f).at a [.code (cut n c).1]) (fc0 := (base f).at a [.code c]) (StopL := StopL) hz hG (by rw [hFs]; exact hO) hS hR (.inr rfl)
    (by
      rw [hFs]
      intro ρ hρ
      refine ⟨rfl, ⟨?_, fun x hx => okV_okJ _ _ _ (ha x hx)⟩, ⟨[], _, _, rfl, rfl, by simp, tl_cut n c hsp⟩, hd, hd, .inl ⟨rfl, rfl⟩, rfl, rfl, rfl, rfl⟩
      apply Array.ext (by simp [Frame.at])
      intro i h1 h2
      rw [Array.getElem_map]
      exact (ren_agree hρ _ (ha _ (Array.getElem_mem h1))).symm)
    (by
      rw [hFs]
      intro τ
      obtain ⟨e, a', w', ⟨rfl, hdf, fn, u, hfn, hr, hq⟩, harr⟩ := hl τ (base f) [] [badF]
      obtain ⟨todo, M, hM⟩ := harr
      exact ⟨M, _, _, w', hM, u, hq, rfl, rfl, rfl, hdf, rfl, fn, hfn, hr⟩)
    (fun fl cl w ⟨u, _, h1, _, h2⟩ => ⟨fun ch h => (by rw [h2.1] at h; cases h), (by rw [h1]; simp)⟩)
  rw [hFs] at U
  refine (Go1.bind (fun s a => RS.refl a) (transfer (main := main) U) fun s g w ⟨ρ, fl, cl, wl, hA, u, hq, hcl, hfn, hlv⟩ => Go1.stop fun w₁ h₁ => ?_)
  subst hcl
  obtain ⟨fc, cc, rfl, hst⟩ := hA.st
  have hfr : FR ⟨P, ρ, Fs⟩ wl.heap.size [.code (.refuse "")] [.code (cut n c).2] fl fc ∧ cc = cs := by
    rcases hst.fr with ⟨h, _, h2⟩ | ⟨_, _, _, h⟩
    · exact ⟨h, h2⟩
    · exfalso
      cases h with
      | cons _ _ _ h => cases h
  obtain ⟨hfr, rfl⟩ := hfr
  obtain ⟨hm, hd, hk, fn, hfn1, hres⟩ := hlv
  have hmode : fc.mode = .returning := by
    rcases hfr.mode with ⟨h1, _⟩ | ⟨_, h2⟩
    · rw [hm] at h1; cases h1
    · exact h2
  have g1 := hf0
  have g5 := hres0
  have g1' : P.funcs[f]? = some fn0 := g1
  rw [hfn] at hfn1
  rw [g1'] at hfn1
  obtain rfl := Option.some.inj hfn1
  obtain ⟨e2, hout⟩ := ret_out (fun b hb h => (hal b hb h).1) hwrs hA hfr g5 hres h₁
  have hwr1 : WR ⟨P, ρ, Fs⟩ wl w₁ := hA.wr.rely fun c hc hca => by
    show w₁.heap[ρ.f c]? = w.heap[ρ.f c]?
    rcases Nat.lt_or_ge c v.heap.size with hb | hb
    · rw [hA.id c hb]
      rcases (hal c hb hca).1 with h | h
      · exact h₁.own c ((hA.mine c).2 (.inl h))
      · exact h₁.rd c h
    · exact h₁.own _ (hA.cover c hb hc)
  exact ⟨⟨ρ, fc, u, wl, rfl, hfr.fn.trans hfn, hmode, hfr.defc, hfr.kindc, ⟨fn0, g1', hout⟩, hq, e2, hA.id, hA.new, hwr1, hA.low, hA.mine⟩, h₁.tape.trans hA.tape, h₁.os.trans hA.os, h₁.output.trans hA.output, Nat.le_trans hA.size h₁.size, fun b hb => (h₁.rd b hb).trans (hA.rd b hb)⟩
end
/-! ### beside leavers: F is free, W of it is written -/
noncomputable abbrev fnsQ (fs : FuncId → Bool) (v : World) (F W : Nat → Prop) : Fns := fnsOf fs v (fun b => W b ∨ (F b ∧ ¬ W b)) W
section
variable {P : Program} {fs : FuncId → Bool} {v : World} {F W : Nat → Prop} {cs : List Frame}
theorem fnsQ_old {b : Nat} (h : b < v.heap.size) (hF : F b) (hp : plainO v.heap[b]? = true) : (fnsQ fs v F W).al b = true :=
  fnsOf_old (al := fun b => W b ∨ (F b ∧ ¬ W b)) h ((Classical.em (W b)).imp id fun hw => ⟨hF, hw⟩) hp
theorem fnsQ_ok {b : Nat} (hF : ∀ b, F b → b < v.heap.size) (h : F b) (hp : plainO v.heap[b]? = true) : Rel.inB (fnsQ fs v F W) v.heap.size b = true := by
  simp [Rel.inB, hF b h, fnsQ_old (fs := fs) (W := W) (hF b h) h hp]
theorem gl_cut {f : FuncId} {c : Code} {n : Nat} {a : Act} {Pre : Act → World → Prop} (hsub : ∀ b, W b → F b) (hF : ∀ b, F b → b < v.heap.size) (hz : ZeroOk P) (hG : P.globals.size ≤ v.heap.size) (hO : ∀ f, fs f = true → ∃ fn, P.funcs[f]? = some fn ∧ fnOk P fs fn = true)
    (hsp : spineOk P ⟨fs, fun _ => false, fun _ => false, fun _ => false⟩ n c = true) (hd : a.defers = []) (ha : ∀ x ∈ a.tmps, okV (fnsQ fs v F W) v.heap.size x = true) (hl : ∀ τ, Rel.Reach P n c Pre a { loneW (fnsQ fs v F W) v with tape := τ, drawn := 0 }) :
    GL P (fun t g w => ∃ s, t = (fun b => (F b ∧ ¬ W b) ∨ s b) ∧ ∃ ρ a' wl, g = G ((base f).at ⟨a'.tmps.map (ren ρ), []⟩ [.code (cut n c).2]) cs ∧ Pre a' wl ∧ (∀ x ∈ a'.tmps, okJ (fnsQ fs v F W) wl.heap.size x = true) ∧ Rel.Left P (fnsQ fs v F W) v (fun b => F b ∧ ¬ W b) W ρ wl s w) F (G ((base f).at a [.code c]) cs) v :=
  gl_of hsub (cut_company hz hG (fun ρ => by unfold fnsOf; exact fnsOk_of hO) (fun b hb => hF b (hsub b hb)) (fun b hb => ⟨hF b hb.1, hb.2⟩) (by unfold fnsOf; exact spine_mono n c hsp) hd ha hl)
theorem gl_ret {f : FuncId} {fn0 : Func} {c : Code} {n : Nat} {a : Act} {Q : Value → World → Prop} (hsub : ∀ b, W b → F b) (hF : ∀ b, F b → b < v.heap.size) (hz : ZeroOk P) (hG : P.globals.size ≤ v.heap.size) (hO : ∀ f, fs f = true → ∃ fn, P.funcs[f]? = some fn ∧ fnOk P fs fn = true)
    (hf0 : P.funcs[f]? = some fn0) (hres0 : fn0.results.all resOk = true) (hsp : spineOk P ⟨fs, fun _ => false, fun _ => false, fun _ => false⟩ n c = true) (hd : a.defers = []) (ha : ∀ x ∈ a.tmps, okV (fnsQ fs v F W) v.heap.size x = true) (hl : ∀ τ, Rets P f n c Q a { loneW (fnsQ fs v F W) v with tape := τ, drawn := 0 }) :
    GL P (fun t g w => ∃ s, t = (fun b => (F b ∧ ¬ W b) ∨ s b) ∧ RetC P (fnsQ fs v F W) v (fun b => F b ∧ ¬ W b) W f cs Q s g w) F (G ((base f).at a [.code c]) cs) v :=
  gl_of hsub (ret_company hz hG (fun ρ => by unfold fnsOf; exact fnsOk_of hO) (fun b hb => hF b (hsub b hb)) (fun b hb => ⟨hF b hb.1, hb.2⟩) hf0 hres0 (by unfold fnsOf; exact spine_mono n c hsp) hd ha hl)
theorem gl_call {f : FuncId} {args : Array Value} {Q : Value → World → Prop} (hsub : ∀ b, W b → F b) (hF : ∀ b, F b → b < v.heap.size) (hz : ZeroOk P) (hG : P.globals.size ≤ v.heap.size) (hO : ∀ f, fs f = true → ∃ fn, P.funcs[f]? = some fn ∧ fnOk P fs fn = true)
    (hf : fs f = true) (ha : ∀ x ∈ args, okV (fnsQ fs v F W) v.heap.size x = true) (hl : ∀ τ, Calls P f args { loneW (fnsQ fs v F W) v with tape := τ, drawn := 0 } fun | .returned u, w => Q u w | _, _ => False) :
    GL P (fun t g w => ∃ s, t = (fun b => (F b ∧ ¬ W b) ∨ s b) ∧ RetC P (fnsQ fs v F W) v (fun b => F b ∧ ¬ W b) W f cs Q s g w) F (G (Frame.enter P f args .normal) cs) v :=
  gl_of hsub (call_company hz hG (fun ρ => by unfold fnsOf; exact fnsOk_of hO) (fun b hb => hF b (hsub b hb)) (fun b hb => ⟨hF b hb.1, hb.2⟩) hf ha hl)
end
section
variable {P : Program} {fs : FuncId → Bool} {v : World} {F W : Nat → Prop} {cs : List Frame} {f : FuncId} {Q : Value → World → Prop} {b₀ : Frame} {a₀ : Act} {ops₀ : Array Oper} {i₀ : Nat} {rest₀ : List Nat} {k₀ : List Item} {g : Goroutine} {w : World}
theorem fnsQ_al {b : Nat} (hsub : ∀ b, W b → F b) (hb : b < v.heap.size) (h : (fnsQ fs v F W).al b = true) : F b := by
  classical
  simp only [fnsQ, fnsOf, hb, if_true, Bool.and_eq_true, decide_eq_true_eq] at h
  exact h.1.elim (hsub b) (·.1)
theorem fnsQ_new {b : Nat} (h : v.heap.size ≤ b) : (fnsQ fs v F W).al b = true ∧ (fnsQ fs v F W).wr b = true := fnsOf_new h
theorem left_rs {s : Nat → Prop} {ρ : Rn} {wl w w₁ : World} (hsub : ∀ b, W b → F b) (h : Rel.Left P (fnsQ fs v F W) v (fun b => F b ∧ ¬ W b) W ρ wl s w) (r : RS No (fun b => (F b ∧ ¬ W b) ∨ s b) w w₁) : Rel.Left P (fnsQ fs v F W) v (fun b => F b ∧ ¬ W b) W ρ wl s w₁ :=
  left_relyB (Bd := fun _ => False) h (fun b hb ha _ => by
    have := fnsQ_al hsub hb ha
    by_cases hw : W b
    · exact .inl hw
    · exact .inr ⟨this, hw⟩) (fun b hb => by cases hb) ⟨⟨r.tape, r.os, r.output, r.size, fun y hy => r.own y (.inr hy), fun y hy => r.own y (.inl hy)⟩, fun _ h => h.elim⟩
/-- What a call leaves, back in its caller's frame. -/
def Back (P : Program) (fs : FuncId → Bool) (v : World) (F W : Nat → Prop) (Q : Value → World → Prop) (b₀ : Frame) (a₀ : Act) (d : Option Tmp) (k : List Item) (cs : List Frame) (t : Nat → Prop) (g : Goroutine) (w : World) : Prop :=
  ∃ s, t = (fun b => (F b ∧ ¬ W b) ∨ s b) ∧ ∃ ρ u wl, g = G (b₀.at (a₀.put d (ren ρ u)) k) cs ∧ Q u wl ∧ okJ (fnsQ fs v F W) wl.heap.size u = true ∧ Rel.Left P (fnsQ fs v F W) v (fun b => F b ∧ ¬ W b) W ρ wl s w
theorem gl_back (hsub : ∀ b, W b → F b)
    (h : GL P (fun t g w => ∃ s, t = (fun b => (F b ∧ ¬ W b) ∨ s b) ∧ RetC P (fnsQ fs v F W) v (fun b => F b ∧ ¬ W b) W f (b₀.at a₀ (.inRegion ops₀ (i₀ :: rest₀) :: k₀) :: cs) Q s g w) F g w) :
    GL P (Back P fs v F W Q b₀ a₀ ((ops₀[i₀]?).bind (·.dst)) (.inRegion ops₀ rest₀ :: k₀) cs) F g w := by
  refine Go1.bind (fun _ a => RS.refl a) h ?_
  rintro t g w ⟨s, rfl, hC⟩
  obtain ⟨ρ, fc, u, wl, rfl, hf, hm, hd, hk, ⟨fn, hfn, hres⟩, hq, hok, hid, hnew, hwr, hlow, hmine⟩ := hC.out
  have hL : Rel.Left P (fnsQ fs v F W) v (fun b => F b ∧ ¬ W b) W ρ wl s w := ⟨hid, hnew, hwr, hlow, hmine, hC.tape, hC.os, hC.output, hC.size, hC.rd⟩
  refine Go1.step rfl fun w₁ h₁ => ?_
  obtain ⟨es, hrun, hev⟩ := hres w₁ (fun b hb => h₁.own b (hb.elim .inr .inl))
  have hs := sg_leave (P := P) (main := true) (c := b₀.at a₀ (.inRegion ops₀ (i₀ :: rest₀) :: k₀)) (cs := cs) (w := w₁) hm hd hk (by rw [hf]; exact hfn) hrun
  rw [Frame.finish_at] at hs
  refine ⟨_, _, _, _, hs, ds_same ⟨rfl, fun e he => ?_⟩, Go1.stop fun w₂ h₂ => ⟨s, rfl, ρ, u, wl, rfl, hq, hok, left_rs hsub hL (h₁.trans h₂)⟩⟩
  rcases hev e (seen_sub he) with ⟨ad, l1, l2, l3⟩ | ⟨r, l1, l2, l3⟩ | l
  · exact .inl ⟨ad, l1, .inl (l2.elim .inr fun h => .inl h.1), l3⟩
  · exact .inr (.inl ⟨r, l1, .inl (l2.elim .inr .inl), l3⟩)
  · exact .inr (.inr l)
end
end Go.Proofs.Ytmmolicodlmlkaa.Ph
namespace Go.Proofs.Ytmmolicodlmlkaa.Ph
open Go.Conc Go.ConcN Go.RowKit
open Go.Proofs.Ytmmolicodlmlkaa.Rel
set_option linter.unusedVariables false
set_option linter.unusedSimpArgs false

theorem areWorkers_any (n : Int) (w : World) : Calls Try.prog 80 #[.int .i64 n] w fun e w' => e = .returned (.bool (Go.Proofs.Ytmmolicodlmlkaa.inB n 1 8)) ∧ w = w' := by
  go_enter Try.func80, Try.ntmps80
  go_wp2_with (go_at_call 97; refine (within_any _ _ _ _).mono ?_; rintro e w' ⟨rfl, rfl⟩)
  go_ret
  exact ⟨rfl, rfl⟩
end Go.Proofs.Ytmmolicodlmlkaa.Ph
namespace Go.Proofs.Ytmmolicodlmlkaa.Ph
open Go.Conc Go.ConcN Go.RowKit Go.Conc.Lib Go.ConcR.Gen Go.ConcN.Gen
open Go.ConcR (KK wgBlock WgAt stA smA rd wr mk DC0 Payload)
open Go.Proofs.Ytmmolicodlmlkaa.Rel
set_option linter.unusedVariables false
set_option linter.unusedSimpArgs false

theorem nm_shared : (Try.f81.name == "runtime.NumGoroutine") = false := by kernel_rfl
section
variable {F : Nat → Prop} {w : World} {A A2 : Option Addr} {c c2 : Nat} {x sl : List Int} {kw : Int} {cs : List Frame}
/-- An argument of which every free block is known. -/
def ArgB (F : Nat → Prop) (w : World) (A : Option Addr) : Prop := ∀ a, A = some a → F a.block ∧ IntsA w a
/-- .. or may be looked at, whatever lies beside it. -/
def ArgP (F : Nat → Prop) (w : World) (A : Option Addr) : Prop := ∀ a, A = some a → F a.block ∧ Plz w a
theorem ArgB.p (h : ArgB F w A) : ArgP F w A := fun a ha => ⟨(h a ha).1, (h a ha).2.plz⟩
theorem fnsQ_no {fs : FuncId → Bool} {y : Nat} (hy : y < w.heap.size) : (fnsQ fs w F No).wr y = false := by
  classical
  simp only [fnsQ, fnsOf, hy, if_true, decide_eq_false_iff_not]
  exact id
end
end Go.Proofs.Ytmmolicodlmlkaa.Ph
namespace Go.Proofs.Ytmmolicodlmlkaa.Ph
open Go.Conc Go.ConcN Go.RowKit Go.Conc.Lib Go.ConcR.Gen Go.ConcN.Gen
open Go.ConcR (KK wgBlock WgAt stA smA rd wr mk DC0 Payload)
open Go.Proofs.Ytmmolicodlmlkaa.Rel
set_option linter.unusedVariables false
set_option linter.unusedSimpArgs false

section
variable {F : Nat → Prop} {w : World} {A A2 : Option Addr} {c c2 : Nat} {x sl : List Int} {kw : Int} {cs : List Frame} {b₀ : Frame} {a₀ : Act} {ops₀ : Array Oper} {i₀ : Nat} {rest₀ : List Nat} {k₀ : List Item}
/-- What it leaves where nothing that was free is written. -/
theorem lk_left {P : Program} {fs : FuncId → Bool} {s : Nat → Prop} {ρ : Rn} {wl w' : World} (hF : ∀ b, F b → b < w.heap.size) (hL : Rel.Left P (fnsQ fs w F No) w (fun b => F b ∧ ¬ No b) No ρ wl s w') : LK [] F w (fun b => (F b ∧ ¬ No b) ∨ s b) w' := by
  refine ⟨hL.size, by simp, fun b hb => .inl ⟨hb, id⟩, hF, fun b hb => ?_, fun b hb => ?_, fun b hb => hL.rd b ⟨hb, id⟩, hL.tape, hL.os, hL.output⟩
  · rcases hb with hb | hb
    · exact Nat.lt_of_lt_of_le (hF b hb.1) hL.size
    · exact left_low hL (fun b hb => (fnsQ_new hb).1) (fun b h => h.elim) hb
  · rcases hb with hb | hb
    · exact .inl hb.1
    · rcases (hL.mine b).1 hb with h | ⟨y, y1, _, rfl⟩
      · exact h.elim
      · exact .inr (hL.new y y1)
end
end Go.Proofs.Ytmmolicodlmlkaa.Ph
namespace Go.Proofs.Ytmmolicodlmlkaa.Ph
open Go.Conc Go.ConcN Go.RowKit Go.Conc.Lib Go.ConcR.Gen Go.ConcN.Gen
open Go.ConcR (KK wgBlock WgAt stA smA rd wr mk DC0 Payload)
open Go.Proofs.Ytmmolicodlmlkaa.Rel
set_option linter.unusedVariables false
set_option linter.unusedSimpArgs false

/-- What is free stays free, and stands. -/
structure Grow (Shun : Loc → Prop) (w : World) (Shun' : Loc → Prop) (w' : World) : Prop where
  tape : w'.tape = w.tape
  os : w'.os = w.os
  output : w'.output = w.output
  size : w.heap.size ≤ w'.heap.size
  old : ∀ y, FreeB Shun w y → FreeB Shun' w' y ∧ w'.heap[y]? = w.heap[y]?
theorem Grow.trans {a b c : World} {s t u : Loc → Prop} (h : Grow s a t b) (k : Grow t b u c) : Grow s a u c :=
  ⟨k.tape.trans h.tape, k.os.trans h.os, k.output.trans h.output, Nat.le_trans h.size k.size, fun y hy => ⟨(k.old y (h.old y hy).1).1, (k.old y (h.old y hy).1).2.trans (h.old y hy).2⟩⟩
/-- From what a walk leaves. -/
theorem LK.grow {own : List (Nat × Array Value × TypeId)} {Shun : Loc → Prop} {w w' : World} {S : Nat → Prop} (h : LK own (FreeB Shun w) w S w') (hf : ∀ b, S b → FreeB Shun w' b) : Grow Shun w Shun w' :=
  ⟨h.tape, h.os, h.output, h.size, fun y hy => ⟨hf y (h.sub y hy), h.old y hy⟩⟩
section
variable {Shun : Loc → Prop} {w w' : World} {Wg : Nat}
theorem free_low {b : Nat} (hs : ∀ l, Shun l → l.isMemory = true ∧ l.low w.heap.size) (hb : b < w'.heap.size) (hne : b ≠ Wg) (ho : b < w.heap.size → FreeB Shun w b) : FreeB (fun l => Shun l ∨ ShN Wg l) w' b := by
  refine ⟨hb, fun l hl hsl => ?_⟩
  rcases hsl with hsl | ⟨a, rfl, e⟩
  · have hlow := (hs l hsl).2
    cases l with
    | cell a =>
      have e : a.block = b := hl
      have hlow : a.block < w.heap.size := hlow
      exact (ho (by omega)).2 (.cell a) e hsl
    | obj r =>
      have e : r = b := hl
      have hlow : r < w.heap.size := hlow
      exact (ho (by omega)).2 (.obj r) e hsl
    | output => exact hl.elim
    | goroutines => exact hl.elim
    | mark m => exact hl.elim
  · have e2 : a.block = b := hl
    exact hne (e2.symm.trans e)
end
section
variable {Shun : Loc → Prop} {w : World} {m : Machine} {t : Trace} {A A2 : Option Addr} {c c2 : Nat} {x sl : List Int} {kw : Int} {cs : List Frame} {b₀ : Frame} {a₀ : Act} {ops₀ : Array Oper} {i₀ : Nat} {rest₀ : List Nat} {k₀ : List Item}
theorem argp_stay {F F' : Nat → Prop} {w' : World} (h : ArgP F w A) (hF : ∀ y, F y → F' y ∧ w'.heap[y]? = w.heap[y]?) : ArgP F' w' A := fun a ha => ⟨(hF _ (h a ha).1).1, (h a ha).2.stay (hF _ (h a ha).1).2⟩
theorem argb_stay {F F' : Nat → Prop} {w' : World} (h : ArgB F w A) (hF : ∀ y, F y → F' y ∧ w'.heap[y]? = w.heap[y]?) : ArgB F' w' A := fun a ha => ⟨(hF _ (h a ha).1).1, (h a ha).2.stay (hF _ (h a ha).1).2⟩
end
end Go.Proofs.Ytmmolicodlmlkaa.Ph
namespace Go.Proofs.Ytmmolicodlmlkaa.Ph
open Go.Conc Go.ConcN Go.RowKit Go.Conc.Lib Go.ConcR.Gen Go.ConcN.Gen
open Go.ConcR (KK wgBlock WgAt stA smA rd wr mk DC0 Payload)
open Go.Proofs.Ytmmolicodlmlkaa.Rel
set_option linter.unusedVariables false
set_option linter.unusedSimpArgs false

/-- A row of slices of numbers that may be read, each of them too. -/
def SSr (F : Nat → Prop) (w : World) (A : Option Addr) (xss : List (List Int)) : Prop :=
  ArgP F w A ∧ ∀ o (h : o < xss.length), ∃ C k R cc, A = some ⟨C, k, none⟩ ∧ w.cell? ⟨C, k + o, none⟩ = some (.slice R xss[o].length cc) ∧ RdL (Value.int .i64) w R xss[o] ∧ (ArgP F w R ∨ (xss[o] = [] ∧ cc = 0))
/-- .. each in a block of its own. -/
def SSo (F : Nat → Prop) (w : World) (A : Option Addr) (xss : List (List Int)) : Prop :=
  ∃ (R : Nat → Option Addr) (cc : Nat → Nat), (∀ o (h : o < xss.length), ∃ C, A = some ⟨C, 0, none⟩ ∧ w.cell? ⟨C, o, none⟩ = some (.slice (R o) xss[o].length (cc o)) ∧ OwnS (Value.int .i64) w 0 2 (R o) xss[o] ∧ ArgB F w (R o)) ∧
    (∀ o o' a a', o < xss.length → o' < xss.length → R o = some a → R o' = some a' → a.block = a'.block → o = o') ∧ ∀ o a c, o < xss.length → R o = some a → A = some c → a.block ≠ c.block
/-- What a law knows of a slice. -/
inductive Fc where
  | arg (A : Option Addr) (x : List Int)
  | ints (A : Option Addr) (x : List Int)
  | own (A : Option Addr) (x : List Int)
  | ss (A : Option Addr) (xss : List (List Int))
  | sso (A : Option Addr) (xss : List (List Int))
  | box (b : Nat) (vs : Array Value) (t : TypeId)
def Fc.holds (F : Nat → Prop) (w : World) : Fc → Prop
  | .arg A x => RdL (Value.int .i64) w A x ∧ ArgP F w A
  | .ints A x => RdL (Value.int .i64) w A x ∧ ArgB F w A
  | .own A x => OwnS (Value.int .i64) w 0 2 A x ∧ ArgB F w A
  | .ss A xss => SSr F w A xss
  | .sso A xss => SSr F w A xss ∧ SSo F w A xss
  | .box b vs t => F b ∧ w.heap[b]? = some (.cells vs t (0, 0))
/-- What is free stands. -/
def Stays (F : Nat → Prop) (w : World) (F' : Nat → Prop) (w' : World) : Prop := ∀ y, F y → F' y ∧ w'.heap[y]? = w.heap[y]?
section
variable {F F' : Nat → Prop} {w w' : World} {A : Option Addr} {x : List Int} {xss : List (List Int)}
theorem own_stay (h : OwnS (Value.int .i64) w 0 2 A x) (hs : ∀ a, A = some a → w'.heap[a.block]? = w.heap[a.block]?) : OwnS (Value.int .i64) w' 0 2 A x := fun hne => by
  obtain ⟨g, ex, e1, e2, e3⟩ := h hne
  exact ⟨g, ex, e1, e2, (hs _ e1).trans e3⟩
theorem SSr.stay (h : SSr F w A xss) (hs : Stays F w F' w') : SSr F' w' A xss := by
  obtain ⟨h1, h2⟩ := h
  refine ⟨argp_stay h1 hs, fun o ho => ?_⟩
  obtain ⟨C, k, R, cc, e1, e2, e3, e4⟩ := h2 o ho
  exact ⟨C, k, R, cc, e1, (cell_stay (a := ⟨C, k + o, none⟩) (hs _ (h1 _ e1).1).2).trans e2, (e4.elim (fun e4 => rdl_stay e3 fun r hr => (hs _ (e4 r hr).1).2) fun e5 => by rw [e5.1]; intro i hi; simp at hi), e4.imp_left fun e4 => argp_stay e4 hs⟩
theorem SSr.row (h : SSr F w A xss) {o : Nat} (ho : o < xss.length) {C k : Nat} {R : Option Addr} {n cc : Nat} (hA : A = some ⟨C, k, none⟩) (hc : w.cell? ⟨C, k + o, none⟩ = some (.slice R n cc)) : ArgP F w R ∨ (xss[o] = [] ∧ cc = 0) := by
  obtain ⟨C', k', R', cc', e1, e2, e3, e4⟩ := h.2 o ho
  rw [hA] at e1
  injection e1 with e1
  injection e1 with e1 e5
  subst e1; subst e5
  rw [hc] at e2
  injection e2 with e2
  injection e2 with e2 _ e6
  subst e2
  subst e6
  exact e4
theorem SSo.stay (h : SSo F w A xss) (hr : SSr F w A xss) (hs : Stays F w F' w') : SSo F' w' A xss := by
  obtain ⟨R, cc, h1, h2, h3⟩ := h
  refine ⟨R, cc, fun o ho => ?_, h2, h3⟩
  obtain ⟨C, e1, e2, e3, e4⟩ := h1 o ho
  exact ⟨C, e1, (cell_stay (a := ⟨C, o, none⟩) (hs _ (hr.1 _ e1).1).2).trans e2, own_stay e3 fun a ha => (hs _ (e4 a ha).1).2, argb_stay e4 hs⟩
theorem fc_stay {f : Fc} (h : f.holds F w) (hs : Stays F w F' w') : f.holds F' w' := by
  cases f with
  | arg A x => exact ⟨rdl_stay h.1 fun a ha => (hs _ (h.2 a ha).1).2, argp_stay h.2 hs⟩
  | ints A x => exact ⟨rdl_stay h.1 fun a ha => (hs _ (h.2 a ha).1).2, argb_stay h.2 hs⟩
  | own A x => exact ⟨own_stay h.1 fun a ha => (hs _ (h.2 a ha).1).2, argb_stay h.2 hs⟩
  | ss A xss => exact SSr.stay h hs
  | sso A xss => exact ⟨h.1.stay hs, h.2.stay h.1 hs⟩
  | box b vs t => exact ⟨(hs _ h.1).1, (hs _ h.1).2.trans h.2⟩
end
/-- What a law knows. -/
structure LF (l : List Fc) (F : Nat → Prop) (w : World) : Prop where
  low : ∀ y, F y → y < w.heap.size
  glob : Try.prog.globals.size ≤ w.heap.size
  fc : ∀ f ∈ l, f.holds F w
section
variable {l : List Fc} {F F' : Nat → Prop} {w w' : World}
theorem LF.rely (h : LF l F w) (r : RS No F w w') : LF l F w' :=
  ⟨fun y hy => Nat.lt_of_lt_of_le (h.low y hy) r.size, Nat.le_trans h.glob r.size, fun f hf => fc_stay (h.fc f hf) fun y hy => ⟨hy, r.own y hy⟩⟩
theorem LF.lk {own : List (Nat × Array Value × TypeId)} (h : LF l F w) (k : LK own F w F' w') : LF l F' w' :=
  ⟨k.low, Nat.le_trans h.glob k.size, fun f hf => fc_stay (h.fc f hf) fun y hy => ⟨k.sub y hy, k.old y hy⟩⟩
theorem LF.add {f : Fc} (h : LF l F w) (hf : f.holds F w) : LF (f :: l) F w := ⟨h.low, h.glob, fun x hx => by
  rcases List.mem_cons.1 hx with rfl | hx
  · exact hf
  · exact h.fc x hx⟩
theorem LF.sub {l' : List Fc} (h : LF l F w) (hs : ∀ f ∈ l', f ∈ l) : LF l' F w := ⟨h.low, h.glob, fun f hf => h.fc f (hs f hf)⟩
theorem LF.at {d : Nat} (h : LF l F (w.at d)) : LF l F w := ⟨h.low, h.glob, fun f hf => by
  have := h.fc f hf
  exact fc_stay (w := w.at d) (w' := w) this fun y hy => ⟨hy, rfl⟩⟩
end
/-! ### calls -/
section
variable {l : List Fc} {F : Nat → Prop} {w : World} {fs : FuncId → Bool} {cs : List Frame} {f : FuncId} {b₀ : Frame} {a₀ : Act} {ops₀ : Array Oper} {i₀ : Nat} {rest₀ : List Nat} {k₀ : List Item} {args : Array Value}
theorem okV_arg {A : Option Addr} {n c : Nat} (h : LF l F w) (hA : ArgP F w A) : okV (fnsQ fs w F No) w.heap.size (.slice A n c) = true := by
  cases A with
  | none => simp
  | some a =>
    rw [okV_sliceA _ _ _ _ (hA a rfl).2.2]
    exact fnsQ_ok h.low (hA a rfl).1 (hA a rfl).2.1
theorem lone_rdl {A : Option Addr} {x : List Int} (h : LF l F w) (hx : RdL (Value.int .i64) w A x) (hA : ArgP F w A) : RdL (Value.int .i64) (loneW (fnsQ fs w F No) w) A x :=
  rdl_look hx (fun _ => by simp) fun b o _ e => ⟨rfl, fnsQ_old (h.low _ (hA _ e).1) (hA _ e).1 (hA _ e).2.1, fnsQ_no (h.low _ (hA _ e).1)⟩
theorem absV_empty {Fs : Fns} {B : Nat} (R : Option Addr) : ∃ R', absV Fs B (.slice R 0 0) = .slice R' 0 0 := by
  rw [absV_leaf (by intro cs h; cases h) (by intro cs h; cases h)]
  by_cases h : okV Fs B (.slice R 0 0) = true
  · exact ⟨R, by rw [if_pos h]⟩
  · rw [if_neg h]
    cases R with
    | none => exact absurd (by simp) h
    | some a => exact ⟨some (markA a), by simp [hideV]⟩
theorem loneW_any {Fs : Fns} {v : World} {a : Addr} {u : Value} (h : v.cell? a = some u) (hn : Fs.na a.block = false) (ha : Fs.al a.block = true) (hw : Fs.wr a.block = false) : (loneW Fs v).cell? a = some (absV Fs v.heap.size u) := by
  unfold World.cell? at h ⊢
  rw [loneW_get]
  cases hb : v.heap[a.block]? with
  | none => rw [hb] at h; cases h
  | some o =>
    rw [hb] at h
    cases o <;> first | (simp at h; done) | skip
    rename_i c e fr
    simp only at h
    by_cases hs : a.spot.isSome = true
    · rw [if_pos hs] at h; cases h
    · rw [if_neg hs] at h
      have : ¬ (c.size = 0 ∧ fr ≠ (0, 0)) := fun h' => by
        have := (Array.getElem?_eq_some_iff.1 h).1
        omega
      simp only [Option.map_some, hn, ha, if_true, if_false, Bool.false_eq_true, loneO, hw]
      rw [if_neg this]
      simp only [hs, if_false, Bool.false_eq_true]
      rw [Array.getElem?_map, h, Option.map_some]
end
end Go.Proofs.Ytmmolicodlmlkaa.Ph
namespace Go.Proofs.Ytmmolicodlmlkaa.Ph
open Go.Conc Go.ConcN Go.RowKit Go.Conc.Lib Go.ConcR.Gen Go.ConcN.Gen
open Go.ConcR (KK wgBlock WgAt stA smA rd wr mk DC0 Payload)
open Go.Proofs.Ytmmolicodlmlkaa.Rel
set_option linter.unusedVariables false
set_option linter.unusedSimpArgs false

/-- The same but for the memory. -/
def TW (W w : World) : Prop := w.tape = W.tape ∧ w.os = W.os ∧ w.output = W.output
theorem TW.trans {a b c : World} (h : TW a b) (k : TW b c) : TW a c := ⟨k.1.trans h.1, k.2.1.trans h.2.1, k.2.2.trans h.2.2⟩
/-- What a law knows: what it reads lies in F, all that there was at its start too; what is its own lies in blocks apart; all of it is free. -/
structure LH (W₀ : World) (l : List Fc) (F : Nat → Prop) (own : List ((Nat → Prop) × Fc)) (S : Nat → Prop) (w : World) : Prop where
  tw : TW W₀ w
  old : ∀ y, y < W₀.heap.size → F y ∧ w.heap[y]? = W₀.heap[y]?
  low : ∀ y, S y → y < w.heap.size
  glob : Try.prog.globals.size ≤ w.heap.size
  fc : ∀ f ∈ l, f.holds F w
  sub : ∀ y, F y → S y
  ow : ∀ p ∈ own, p.2.holds p.1 w ∧ (∀ y, p.1 y → S y) ∧ ∀ y, F y → ¬ p.1 y
  dis : own.Pairwise fun p q => ∀ y, p.1 y → ¬ q.1 y
section
variable {W₀ : World} {l : List Fc} {F S S' : Nat → Prop} {own : List ((Nat → Prop) × Fc)} {w w' : World}
theorem LH.stay (h : LH W₀ l F own S w) (hs : Stays S w S' w') (hl : ∀ y, S' y → y < w'.heap.size) (hz : w.heap.size ≤ w'.heap.size) (ht : TW w w') : LH W₀ l F own S' w' :=
  ⟨h.tw.trans ht, fun y hy => ⟨(h.old y hy).1, (hs y (h.sub y (h.old y hy).1)).2.trans (h.old y hy).2⟩, hl, Nat.le_trans h.glob hz, fun f hf => fc_stay (h.fc f hf) fun y hy => ⟨hy, (hs y (h.sub y hy)).2⟩, fun y hy => (hs y (h.sub y hy)).1,
    fun p hp => ⟨fc_stay (h.ow p hp).1 fun y hy => ⟨hy, (hs y ((h.ow p hp).2.1 y hy)).2⟩, fun y hy => (hs y ((h.ow p hp).2.1 y hy)).1, (h.ow p hp).2.2⟩, h.dis⟩
theorem LH.rely (h : LH W₀ l F own S w) (r : RS No S w w') : LH W₀ l F own S w' := h.stay (fun y hy => ⟨hy, r.own y hy⟩) (fun y hy => Nat.lt_of_lt_of_le (h.low y hy) r.size) r.size ⟨r.tape, r.os, r.output⟩
theorem LH.lk {o : List (Nat × Array Value × TypeId)} (h : LH W₀ l F own S w) (k : LK o S w S' w') : LH W₀ l F own S' w' := h.stay (fun y hy => ⟨k.sub y hy, k.old y hy⟩) k.low k.size ⟨k.tape, k.os, k.output⟩
theorem LH.at {d : Nat} (h : LH W₀ l F own S (w.at d)) : LH W₀ l F own S w := h.stay (fun y hy => ⟨hy, rfl⟩) h.low (Nat.le_refl _) ⟨rfl, rfl, rfl⟩
theorem LH.grow {s s' : Loc → Prop} (h : LH W₀ l F own (FreeB s w) w) (g : Grow s w s' w') : LH W₀ l F own (FreeB s' w') w' := h.stay (fun y hy => g.old y hy) (fun y hy => hy.1) g.size ⟨g.tape, g.os, g.output⟩
theorem LH.lf (h : LH W₀ l F own S w) : LF [] S w := ⟨h.low, h.glob, by simp⟩
theorem LH.base {f : Fc} (h : LH W₀ l F own S w) (hf : f ∈ l) : f.holds S w := fc_stay (h.fc f hf) fun y hy => ⟨h.sub y hy, rfl⟩
theorem LH.mine {p : (Nat → Prop) × Fc} (h : LH W₀ l F own S w) (hp : p ∈ own) : p.2.holds S w := fc_stay (h.ow p hp).1 fun y hy => ⟨(h.ow p hp).2.1 y hy, rfl⟩
/-- All that is free may be more. -/
theorem LH.wide (h : LH W₀ l F own S w) (hs : ∀ y, S y → S' y) (hl : ∀ y, S' y → y < w.heap.size) : LH W₀ l F own S' w := h.stay (fun y hy => ⟨hs y hy, rfl⟩) hl (Nat.le_refl _) ⟨rfl, rfl, rfl⟩
/-- Something new that is its own. -/
theorem LH.addOwn {p : (Nat → Prop) × Fc} (h : LH W₀ l F own S w) (hp : p.2.holds p.1 w) (hS : ∀ y, p.1 y → S y) (hn : ∀ y, F y → ¬ p.1 y) (hd : ∀ q ∈ own, ∀ y, q.1 y → ¬ p.1 y) : LH W₀ l F (p :: own) S w :=
  ⟨h.tw, h.old, h.low, h.glob, h.fc, h.sub, fun q hq => by
    rcases List.mem_cons.1 hq with rfl | hq
    · exact ⟨hp, hS, hn⟩
    · exact h.ow q hq, List.Pairwise.cons (fun q hq y hy hq' => hd q hq y hq' hy) h.dis⟩
/-- Something new that is read. -/
theorem LH.addBase {f : Fc} {N : Nat → Prop} (h : LH W₀ l F own S w) (hf : f.holds N w) (hS : ∀ y, N y → S y) (hd : ∀ q ∈ own, ∀ y, q.1 y → ¬ N y) : LH W₀ (f :: l) (fun y => F y ∨ N y) own S w :=
  ⟨h.tw, fun y hy => ⟨.inl (h.old y hy).1, (h.old y hy).2⟩, h.low, h.glob, fun x hx => by
    rcases List.mem_cons.1 hx with rfl | hx
    · exact fc_stay hf fun y hy => ⟨.inr hy, rfl⟩
    · exact fc_stay (h.fc x hx) fun y hy => ⟨.inl hy, rfl⟩, fun y hy => hy.elim (h.sub y) (hS y), fun p hp => ⟨(h.ow p hp).1, (h.ow p hp).2.1, fun y hy hp' => hy.elim (fun hy => (h.ow p hp).2.2 y hy hp') fun hy => hd p hp y hp' hy⟩, h.dis⟩
/-- The first is given up or has been turned. -/
theorem LH.turn {p : (Nat → Prop) × Fc} (h : LH W₀ l F (p :: own) S w) (hs : ∀ y, S y → ¬ p.1 y → S' y ∧ w'.heap[y]? = w.heap[y]?) (hl : ∀ y, S' y → y < w'.heap.size) (hz : w.heap.size ≤ w'.heap.size) (ht : TW w w') : LH W₀ l F own S' w' := by
  have hp := h.ow p (by simp)
  have hd := h.dis
  rw [List.pairwise_cons] at hd
  have key : ∀ q ∈ own, ∀ y, q.1 y → ¬ p.1 y := fun q hq y hy hy' => hd.1 q hq y hy' hy
  exact ⟨h.tw.trans ht, fun y hy => ⟨(h.old y hy).1, (hs y (h.sub y (h.old y hy).1) (hp.2.2 y (h.old y hy).1)).2.trans (h.old y hy).2⟩, hl, Nat.le_trans h.glob hz, fun f hf => fc_stay (h.fc f hf) fun y hy => ⟨hy, (hs y (h.sub y hy) (hp.2.2 y hy)).2⟩, fun y hy => (hs y (h.sub y hy) (hp.2.2 y hy)).1,
    fun q hq => ⟨fc_stay (h.ow q (by simp [hq])).1 fun y hy => ⟨hy, (hs y ((h.ow q (by simp [hq])).2.1 y hy) (key q hq y hy)).2⟩, fun y hy => (hs y ((h.ow q (by simp [hq])).2.1 y hy) (key q hq y hy)).1, (h.ow q (by simp [hq])).2.2⟩, hd.2⟩
theorem LH.drop {p : (Nat → Prop) × Fc} (h : LH W₀ l F (p :: own) S w) : LH W₀ l F own S w := h.turn (fun y hy _ => ⟨hy, rfl⟩) h.low (Nat.le_refl _) ⟨rfl, rfl, rfl⟩
theorem LH.below (h : LH W₀ l F own S w) : Below W₀.heap.size W₀ w :=
  ⟨h.tw.2.1, h.tw.1, h.tw.2.2, by
    rcases Nat.eq_zero_or_pos W₀.heap.size with h0 | h0
    · omega
    · have := h.low _ (h.sub _ (h.old (W₀.heap.size - 1) (by omega)).1); omega, fun y hy => (h.old y hy).2⟩
end
section
variable {W₀ : World} {l : List Fc} {F S : Nat → Prop} {own : List ((Nat → Prop) × Fc)} {w : World} {cs : List Frame} {b₀ : Frame} {a₀ : Act} {ops₀ : Array Oper} {i₀ : Nat} {rest₀ : List Nat} {k₀ : List Item}
end
end Go.Proofs.Ytmmolicodlmlkaa.Ph
namespace Go.Proofs.Ytmmolicodlmlkaa.Ph
open Go.Conc Go.ConcN Go.RowKit Go.Conc.Lib Go.ConcR.Gen Go.ConcN.Gen
open Go.ConcR (KK wgBlock WgAt stA smA rd wr mk DC0 Payload)
open Go.Proofs.Ytmmolicodlmlkaa.Rel
set_option linter.unusedVariables false
set_option linter.unusedSimpArgs false

section
variable {W₀ : World} {l : List Fc} {F S G' W : Nat → Prop} {own : List ((Nat → Prop) × Fc)} {w wl w' : World} {cs : List Frame} {b₀ : Frame} {a₀ : Act} {ops₀ : Array Oper} {i₀ : Nat} {rest₀ : List Nat} {k₀ : List Item} {A : Option Addr} {c : Nat} {x : List Int} {q : Int} {xss : List (List Int)}
theorem fnsQ_wr {fs : FuncId → Bool} {y : Nat} (hy : y < w.heap.size) (h : W y) : (fnsQ fs w S W).wr y = true := by
  classical
  simp only [fnsQ, fnsOf, hy, if_true, decide_eq_true_eq]
  exact h
theorem fnsQ_rd {fs : FuncId → Bool} {y : Nat} (hy : y < w.heap.size) (h : ¬ W y) : (fnsQ fs w S W).wr y = false := by
  classical
  simp only [fnsQ, fnsOf, hy, if_true, decide_eq_false_iff_not]
  exact h
theorem left_state {fs : FuncId → Bool} {P : Program} {s : Nat → Prop} {ρ : Rn} (hsub : ∀ y, W y → S y) (hl : ∀ y, S y → y < w.heap.size) (hL : Rel.Left P (fnsQ fs w S W) w (fun b => S b ∧ ¬ W b) W ρ wl s w') :
    (∀ y, S y → ((S y ∧ ¬ W y) ∨ s y)) ∧ (∀ y, ((S y ∧ ¬ W y) ∨ s y) → y < w'.heap.size) ∧ w.heap.size ≤ w'.heap.size ∧ ∀ y, S y → ¬ W y → w'.heap[y]? = w.heap[y]? := by
  refine ⟨fun y hy => ?_, fun y hy => ?_, hL.size, fun y hy hn => hL.rd y ⟨hy, hn⟩⟩
  · by_cases hw : W y
    · exact .inr ((hL.mine y).2 (.inl hw))
    · exact .inl ⟨hy, hw⟩
  · rcases hy with hy | hy
    · exact Nat.lt_of_lt_of_le (hl y hy.1) hL.size
    · exact left_low hL (fun b hb => (fnsQ_new hb).1) (fun b hb => hl b (hsub b hb)) hy
end
end Go.Proofs.Ytmmolicodlmlkaa.Ph
namespace Go.Proofs.Ytmmolicodlmlkaa.Ph
open Go.Conc Go.ConcN Go.RowKit Go.Conc.Lib Go.ConcR.Gen Go.ConcN.Gen
open Go.ConcR (KK wgBlock WgAt stA smA rd wr mk DC0 Payload)
open Go.Proofs.Ytmmolicodlmlkaa.Rel
set_option linter.unusedVariables false
set_option linter.unusedSimpArgs false

noncomputable def lt1 : Code := match Try.f13.body with | some (.seq _ (.seq _ (.seq (.seq _ (.block _ (.loop c))) _))) => c | _ => .skip
noncomputable def lt2 : Code := match Try.f13.body with | some (.seq _ (.seq _ (.seq _ c))) => c | _ => .skip
section
variable {F : Nat → Prop} {w : World} {A : Option Addr} {c : Nat} {x : List Int} {cs : List Frame} {b₀ : Frame} {a₀ : Act} {ops₀ : Array Oper} {i₀ : Nat} {rest₀ : List Nat} {k₀ : List Item}
end
end Go.Proofs.Ytmmolicodlmlkaa.Ph
namespace Go.Proofs.Ytmmolicodlmlkaa
open Go.RowKit
set_option linter.unusedVariables false

/-- The cells of an own slice's block from number n on are zero. -/
def SpareZ (z : Value) (w : World) (v : Value) (n : Nat) : Prop := ∀ g, v.ownBlock = some g → ∃ c e, w.heap[g]? = some (.cells c e (0, 0)) ∧ ∀ x ∈ c.toList.drop n, x = z
theorem SpareZ.made {z : Value} {w : World} {e : TypeId} : SpareZ z (w.alloc (.cells #[] e)) (.slice (some ⟨w.heap.size, 0, none⟩) 0 0) 0 := fun g hg => by
  obtain rfl : w.heap.size = g := by injection hg
  exact ⟨#[], e, heap_alloc_new w _, by simp⟩
theorem SpareZ.alloc {z : Value} {w : World} {v : Value} {n : Nat} (h : SpareZ z w v n) (o : Obj) : SpareZ z (w.alloc o) v n := fun g hg => by
  obtain ⟨c, e, h1, h2⟩ := h g hg
  exact ⟨c, e, (heap_alloc_old w o (Array.getElem?_eq_some_iff.1 h1).1).trans h1, h2⟩
theorem SpareZ.stay {z : Value} {w w' : World} {v : Value} {n : Nat} (h : SpareZ z w v n) (hs : ∀ g, v.ownBlock = some g → w'.heap[g]? = w.heap[g]?) : SpareZ z w' v n := fun g hg => by
  obtain ⟨c, e, h1, h2⟩ := h g hg
  exact ⟨c, e, (hs g hg).trans h1, h2⟩
end Go.Proofs.Ytmmolicodlmlkaa
namespace Go.Proofs.Ytmmolicodlmlkaa
open Go.RowKit
open Go.Proofs.Ytmmolicodlmlkaa.Rel (Ints IntsA)
set_option linter.unusedVariables false
set_option linter.unusedSimpArgs false

/-- Rows that are being made: those of the first k numbers. -/
structure Rws (w0 : World) (x sl : List Int) (v : Value) (k : Nat) (R : Nat → Option Addr) (cc : Nat → Nat) (w : World) : Prop where
  own : w.ownsRow w0.heap.size 22 1 v k ((List.range k).map fun o => .slice (R o) x.length (cc o))
  spare : SpareZ (.slice none 0 0) w v k
  row : ∀ o, o < k → OwnS (Value.int .i64) w w0.heap.size 2 (R o) (rowH x (sl.getD o 0).toNat x.length) ∧ ∀ a, R o = some a → w0.heap.size ≤ a.block ∧ IntsA w a ∧ v.ownBlock ≠ some a.block
  below : Below w0.heap.size w0 w
theorem Rws.grown {w0 w w' : World} {x sl : List Int} {v v' : Value} {k : Nat} {R : Nat → Option Addr} {cc : Nat → Nat} (h : Rws w0 x sl v k R cc w) {a : Option Addr} {c : Nat} (hown : w'.ownsRow w0.heap.size 22 1 v' (k + 1) (((List.range k).map fun o => .slice (R o) x.length (cc o)) ++ [.slice a x.length c])) (hg : w.grownBy w' v.ownBlock) (hs : SpareZ (.slice none 0 0) w' v' (k + 1)) (hv : ∀ g, v'.ownBlock = some g → v.ownBlock = some g ∨ w.heap.size ≤ g)
    (ha : OwnS (Value.int .i64) w w0.heap.size 2 a (rowH x (sl.getD k 0).toNat x.length) ∧ ∀ b, a = some b → w0.heap.size ≤ b.block ∧ IntsA w b ∧ v.ownBlock ≠ some b.block) :
    Rws w0 x sl v' (k + 1) (fun o => if o = k then a else R o) (fun o => if o = k then c else cc o) w' := by
  have lt : ∀ b, Ints w b → b < w.heap.size := fun b ⟨_, _, h, _⟩ => (Array.getElem?_eq_some_iff.1 h).1
  have keep : ∀ (B : Option Addr) (y : List Int), (OwnS (Value.int .i64) w w0.heap.size 2 B y ∧ ∀ b, B = some b → w0.heap.size ≤ b.block ∧ IntsA w b ∧ v.ownBlock ≠ some b.block) →
      (OwnS (Value.int .i64) w' w0.heap.size 2 B y ∧ ∀ b, B = some b → w0.heap.size ≤ b.block ∧ IntsA w' b ∧ v'.ownBlock ≠ some b.block) := by
    rintro B y ⟨q1, q2⟩
    have hb : ∀ b, B = some b → w'.heap[b.block]? = w.heap[b.block]? := fun b e => hg.block _ (lt _ (q2 b e).2.1.1) fun e' => (q2 b e).2.2 e'.symm
    refine ⟨fun hne => ?_, fun b e => ⟨(q2 b e).1, (q2 b e).2.1.stay (hb b e), fun e' => ?_⟩⟩
    · obtain ⟨g, ex, e1, e2, e3⟩ := q1 hne
      exact ⟨g, ex, e1, e2, (hb _ e1).trans e3⟩
    · rcases hv _ e' with h1 | h1
      · exact (q2 b e).2.2 h1
      · have := lt _ (q2 b e).2.1.1; omega
  refine ⟨?_, hs, fun o ho => ?_, h.below.grown hg h.below.size fun g hg' => (h.own.lt g hg').1⟩
  · rw [List.range_succ, List.map_append]
    have e : ((List.range k).map fun o => Value.slice (if o = k then a else R o) x.length (if o = k then c else cc o)) = (List.range k).map fun o => .slice (R o) x.length (cc o) := List.map_congr_left fun o ho => by
      have : o ≠ k := by have := List.mem_range.1 ho; omega
      simp [this]
    rw [e]
    simpa using hown
  · by_cases he : o = k
    · subst he
      simpa using keep _ _ ha
    · simp only [he, if_false]
      exact keep _ _ (h.row o (by omega))
theorem Rws.moved {w0 w w' : World} {x sl : List Int} {v : Value} {k : Nat} {R : Nat → Option Addr} {cc : Nat → Nat} (h : Rws w0 x sl v k R cc w) (hb : Below w.heap.size w w') : Rws w0 x sl v k R cc w' := by
  have hbl : ∀ b, b < w.heap.size → w'.heap[b]? = w.heap[b]? := fun b hb' => hb.block b hb'
  have lt : ∀ b, Ints w b → b < w.heap.size := fun b ⟨_, _, h, _⟩ => (Array.getElem?_eq_some_iff.1 h).1
  refine ⟨h.own.kept ⟨hb.os, hb.tape, hb.output, hb.size, fun k hk _ => hb.block k hk⟩ (row := none) ?_, h.spare.stay fun g hg => hbl g (h.own.lt g hg).2, fun o ho => ⟨fun hne => ?_, fun a ha => ?_⟩, h.below.trans (hb.mono h.below.size)⟩
  · cases v.ownBlock with
    | none => exact .inl rfl
    | some g => exact .inr (by simp)
  · obtain ⟨g, ex, e1, e2, e3⟩ := (h.row o ho).1 hne
    exact ⟨g, ex, e1, e2, (hbl g (lt _ ((h.row o ho).2 _ e1).2.1.1)).trans e3⟩
  · obtain ⟨q1, q2, q3⟩ := (h.row o ho).2 a ha
    exact ⟨q1, q2.stay (hbl _ (lt _ q2.1)), q3⟩
theorem Rws.alloc {w0 w : World} {x sl : List Int} {v : Value} {k : Nat} {R : Nat → Option Addr} {cc : Nat → Nat} (h : Rws w0 x sl v k R cc w) (o : Obj) : Rws w0 x sl v k R cc (w.alloc o) := h.moved (below_a1 w o)
end Go.Proofs.Ytmmolicodlmlkaa
namespace Go.Proofs.Ytmmolicodlmlkaa.Ph
open Go.Conc Go.ConcN Go.RowKit Go.Conc.Lib Go.ConcR.Gen Go.ConcN.Gen
open Go.ConcR (KK wgBlock WgAt stA smA rd wr mk DC0 Payload)
open Go.Proofs.Ytmmolicodlmlkaa.Rel
set_option linter.unusedVariables false
set_option linter.unusedSimpArgs false

section
variable {W₀ : World} {l : List Fc} {F S : Nat → Prop} {own : List ((Nat → Prop) × Fc)} {w w' wl : World} {cs : List Frame} {b₀ : Frame} {a₀ : Act} {ops₀ : Array Oper} {i₀ : Nat} {rest₀ : List Nat} {k₀ : List Item} {A A2 : Option Addr} {c c2 : Nat} {x sl : List Int} {kw : Int}
end
end Go.Proofs.Ytmmolicodlmlkaa.Ph
namespace Go.Proofs.Ytmmolicodlmlkaa.Ph
open Go.Conc Go.ConcN Go.RowKit Go.Conc.Lib Go.ConcR.Gen Go.ConcN.Gen
open Go.ConcR (KK wgBlock WgAt stA smA rd wr mk DC0 Payload)
open Go.Proofs.Ytmmolicodlmlkaa.Rel
set_option linter.unusedVariables false
set_option linter.unusedSimpArgs false

section
variable {W₀ : World} {l : List Fc} {F S : Nat → Prop} {own : List ((Nat → Prop) × Fc)} {Shun : Loc → Prop} {w : World} {m : Machine} {t : Trace} {A A2 : Option Addr} {c c2 : Nat} {x sl : List Int} {kw : Int} {cs : List Frame} {b₀ : Frame} {a₀ : Act} {ops₀ : Array Oper} {i₀ : Nat} {rest₀ : List Nat} {k₀ : List Item}
end
/-- Alone, at the beginning. -/
theorem at_start {P : Program} {g : Goroutine} {w : World} : At P (fun _ => False) g w (solo g w) #[] := by
  refine ⟨⟨#[g], none, fun _ => 0, by rw [solo_eq_crowd], rfl, ⟨leavers_one _ _, past_nil.mono (Nat.zero_le _), by simp⟩⟩, fun l h => h.elim⟩
end Go.Proofs.Ytmmolicodlmlkaa.Ph
namespace Go.Proofs.Ytmmolicodlmlkaa.Ph
open Go.Conc Go.RowKit
open Go.Proofs.Ytmmolicodlmlkaa.Rel
set_option linter.unusedVariables false

/-- The lone walk's slots. -/
def absA (Fs : Fns) (B : Nat) (a : Act) : Act := ⟨a.tmps.map (absV Fs B), []⟩
section
variable {P : Program} {fs : FuncId → Bool} {v : World} {Rd S : Nat → Prop} {cs : List Frame} {main : Bool}
end
section
variable {P : Program} {fs : FuncId → Bool} {v : World} {F W : Nat → Prop} {cs : List Frame}
end
end Go.Proofs.Ytmmolicodlmlkaa.Ph
namespace Go.Proofs.Ytmmolicodlmlkaa.Ph
open Go.Conc Go.ConcN Go.RowKit Go.Conc.Lib Go.ConcR.Gen Go.ConcN.Gen
open Go.ConcR (KK wgBlock WgAt stA smA rd wr mk DC0 Payload)
open Go.Proofs.Ytmmolicodlmlkaa.Rel
set_option linter.unusedVariables false
set_option linter.unusedSimpArgs false

/-- The law's end. -/
def LawEnd (W₀ : World) (S : Nat → Prop) (g : Goroutine) (w : World) : Prop := g.status = .running ∧ ∀ w₁, RS No S w w₁ → ∃ v, stepG Try.prog true g w₁ = .ended (.done v) w₁ #[] ∧ v = .bool true ∧ Below W₀.heap.size W₀ w₁
/-- The run's pieces, put together. -/
theorem ends_at {W₀ : World} {Shun : Loc → Prop} {S : Nat → Prop} {g : Goroutine} {w : World} {m m0 : Machine} {t t0 : Trace} {K : Nat} (hr : runNT Try.prog K m0 t0 = (.next m, t)) (h : At Try.prog Shun g w m t) (hS : ∀ y, S y → FreeB Shun w y) (hG : GL Try.prog (LawEnd W₀) S g w) :
    ∃ M last o w' t', runNT Try.prog (M + 1) m0 t0 = (.ended o w', t') ∧ runN Try.prog M m0 = .next last ∧ step Try.prog last = .ended o w' ∧ Go.Conc.Good Try.prog (fun v W' => v = .bool true ∧ Below W₀.heap.size W₀ W') last o w' t' := by
  obtain ⟨⟨gs, sl, q, rfl, h0, hL⟩, hs⟩ := h
  have hfr := FreeB.free (w := w) hs
  obtain ⟨N, last, o, w', t', e1, e2, e3, e4⟩ := ends (Post := fun v W' => v = .bool true ∧ Below W₀.heap.size W₀ W') (sl := sl) h0 hL (S := S) ⟨fun l hl => hfr.free l (by
    cases l with
    | cell a => exact hS _ hl
    | obj r => exact hS _ hl
    | output => exact hl
    | goroutines => exact hl
    | mark m => exact hl), fun b hb => (hS b hb).1, hfr.shun⟩ hG
  refine ⟨K + N, last, o, w', t', ?_, ?_, e3, e4⟩
  · rw [Nat.add_assoc, runNT_add, hr]; exact e1
  · rw [runN_add, ← runNT_fst Try.prog _ _ t0, hr]; exact e2
/-! ### any law: from a lone end to its own -/
theorem stepG_done' {P : Program} {fc : Frame} {w : World} {fn : Func} {t : Tmp} (hm : fc.mode = .returning) (hn : fc.kind = .normal) (hd : fc.defers = []) (hf : P.funcs[fc.fn]? = some fn) (hr : fn.results = #[.tmp t]) (hi : P.inits.idxOf? fc.fn = none) :
    stepG P true (G fc []) w = .ended (.done (fc.tmps.getD t undef)) w #[] := by
  have h1 := results_tmp hr fc.tmps P w
  have h2 := events_results_tmp (P := P) (w := w) hr fc.tmps #[]
  simp [G, stepG, unwind, doReturn, hm, hn, hd, hf, h1, h2, hi, seen, GStep.after]
theorem law_ret {W₀ : World} {l : List Fc} {F0 S : Nat → Prop} {own : List ((Nat → Prop) × Fc)} {v : World} {fs : FuncId → Bool} {f : FuncId} {fn : Func} {t0 : Tmp} {g : Goroutine} (hH : LH W₀ l F0 own S v) (hf : Try.prog.funcs[f]? = some fn) (hr : fn.results = #[.tmp t0]) (hi : Try.prog.inits.idxOf? f = none)
    (h : GL Try.prog (fun t g w => ∃ s, t = (fun b => (S b ∧ ¬ No b) ∨ s b) ∧ RetC Try.prog (fnsQ fs v S No) v (fun b => S b ∧ ¬ No b) No f [] (fun u w' => u = .bool true) s g w) S g v) : GL Try.prog (LawEnd W₀) S g v := by
  refine Go1.widen h ?_
  rintro t g w ⟨s, rfl, hC⟩
  obtain ⟨ρ, fc, u, wl, rfl, hfn, hm, hd, hk, ⟨fn', hfn', hres⟩, rfl, hok, hid, hnew, hwr, hlow, hmine⟩ := hC.out
  have hL : Rel.Left Try.prog (fnsQ fs v S No) v (fun b => S b ∧ ¬ No b) No ρ wl s w := ⟨hid, hnew, hwr, hlow, hmine, hC.tape, hC.os, hC.output, hC.size, hC.rd⟩
  have hK := lk_left hH.low hL
  have hH1 := hH.lk hK
  rw [hf] at hfn'
  obtain rfl := Option.some.inj hfn'
  refine ⟨rfl, fun w₁ h₁ => ⟨_, stepG_done' hm hk hd (by rw [hfn]; exact hf) hr (by rw [hfn]; exact hi), ?_, (hH1.rely h₁).below⟩⟩
  obtain ⟨es, hrun, _⟩ := hres w₁ (fun b hb => h₁.own b (hb.elim .inr .inl))
  have h1 := results_tmp hr fc.tmps Try.prog w₁
  have h2 : ((results fn fc.tmps).runT Try.prog w₁ #[]).1 = .ok (fc.tmps.getD t0 undef) w₁ := by rw [Sem.runT_eq]; exact h1
  rw [hrun] at h2
  have h3 : Result.ok (ren ρ (.bool true)) w₁ = Result.ok (fc.tmps.getD t0 undef) w₁ := h2
  rw [← (Result.ok.inj h3).1]; simp
end Go.Proofs.Ytmmolicodlmlkaa.Ph
namespace Go.Proofs.Ytmmolicodlmlkaa.Ph
open Go.Conc Go.RowKit
open Go.Proofs.Ytmmolicodlmlkaa.Rel
set_option linter.unusedVariables false

/-- .. to the function's return. -/
def EndsM (P : Program) (ops : Array Oper) (rest : List Nat) (f : FuncId) (c : Code) (Post : Value → World → Prop) (a : Act) (w : World) : Prop :=
  ∀ (b : Frame) (cs : List Frame), ∃ a' w' todo, (a'.defers = [] ∧ ∃ fn v, P.funcs[f]? = some fn ∧ (results fn a'.tmps).run P w' = .ok v w' ∧ Post v w') ∧ Steps P (lone (b.at a [.inRegion ops rest, .code c]) cs w) (lone { b.at a' todo with mode := .returning } cs w')
theorem endsM_of {P : Program} {ops : Array Oper} {rest : List Nat} {f : FuncId} {c : Code} {Post : Value → World → Prop} {a : Act} {w : World} (h : wpOps P ops (Exit.then (fun a w => Rel.Ends P f c Post a w) Rel.NoExit) rest a w) : EndsM P ops rest f c Post a w := by
  intro b cs
  obtain ⟨e, a', w', q, r⟩ := wp_ops rest a w h b [.code c] cs
  cases e with
  | normal =>
    obtain ⟨e2, a2, w2, ⟨he, hq⟩, hs⟩ := q b [] cs
    rcases he with rfl | rfl
    · exact ⟨a2, w2, [], hq, Steps.trans (Steps.trans r hs) (.one step_end)⟩
    · obtain ⟨todo, hs⟩ := hs
      exact ⟨a2, w2, todo, hq, Steps.trans r hs⟩
  | exit id => exact q.elim
  | goto l => exact q.elim
  | ret => exact q.elim
  | panic ch => exact q.elim
  | outgrown => exact q.elim
/-- The operations behind a call, as the walk's tactics want them. -/
theorem wpOps_from {P : Program} {ops : Array Oper} {Q : Exit → Act → World → Prop} {l : List Oper} {a : Act} {w : World} (k n : Nat) (hn : l.length = n) (h0 : ∀ j, l[j]? = ops[k + j]?) (h : wpList P ops Q l a w) : wpOps P ops Q (List.range' k n) a w := by
  subst hn
  rw [wpOps_eq_wpList l k h0]
  exact h
theorem opsOk_mono {P : Program} {fs : FuncId → Bool} {al wr na : Nat → Bool} {ops : Array Oper} {l : List Nat} (h : opsOk P ⟨fs, fun _ => false, fun _ => false, fun _ => false⟩ ops l = true) : opsOk P ⟨fs, al, wr, na⟩ ops l = true := by
  unfold opsOk at h ⊢
  rw [List.all_eq_true] at h ⊢
  intro i hi
  have := h i hi
  cases ho : ops[i]? with
  | none => rfl
  | some o =>
    rw [ho] at this
    exact op_mono _ this
section
variable {P : Program} {fs : FuncId → Bool} {v : World} {Rd S : Nat → Prop} {cs : List Frame} {main : Bool}
/-- ████ TO THE RETURN, IN COMPANY. ████ -/
theorem end_companyM {f : FuncId} {fn0 : Func} {c : Code} {ops : Array Oper} {rest : List Nat} {a : Act} {Q : Value → World → Prop} (hz : ZeroOk P) (hG : P.globals.size ≤ v.heap.size) (hO : ∀ ρ, FnsOk ⟨P, ρ, fnsOf fs v (fun b => S b ∨ Rd b) S⟩) (hS : ∀ b, S b → b < v.heap.size) (hR : ∀ b, Rd b → b < v.heap.size ∧ ¬ S b)
    (hf0 : P.funcs[f]? = some fn0) (hres0 : fn0.results.all resOk = true) (hc : codeOk P (fnsOf fs v (fun b => S b ∨ Rd b) S) c = true) (hop : opsOk P (fnsOf fs v (fun b => S b ∨ Rd b) S) ops rest = true) (hd : a.defers = [])
    (hl : ∀ τ, EndsM P ops rest f c Q (absA (fnsOf fs v (fun b => S b ∨ Rd b) S) v.heap.size a) { loneW (fnsOf fs v (fun b => S b ∨ Rd b) S) v with tape := τ, drawn := 0 }) :
    Go1 P main (RS Rd) (DS Rd) (RetC P (fnsOf fs v (fun b => S b ∨ Rd b) S) v Rd S f cs Q) S (G ((base f).at a [.inRegion ops rest, .code c]) cs) v := by
  classical
  have hal : ∀ b, b < v.heap.size → (fnsOf fs v (fun b => S b ∨ Rd b) S).al b = true → (S b ∨ Rd b) ∧ plainO v.heap[b]? = true := by
    intro b hb h
    simp only [fnsOf, hb, if_true, Bool.and_eq_true, decide_eq_true_eq] at h
    exact h
  have hwrs : ∀ b, b < v.heap.size → (fnsOf fs v (fun b => S b ∨ Rd b) S).wr b = true → S b := by
    intro b hb h
    simpa only [fnsOf, hb, if_true, decide_eq_true_eq] using h
  generalize hFs : fnsOf fs v (fun b => S b ∨ Rd b) S = Fs at *
  let StopL : Frame → List Frame → World → Prop := fun fl cl w => ∃ u, Q u w ∧ cl = [badF] ∧ fl.fn = f ∧ fl.leaving P w (.returned u)
  have U := setup_lone (P := P) (fs := fs) (v := v) (Rd := Rd) (S := S) (cs := cs) (kl := []) (kc := []) (fl0 := (base f).at (absA (fnsOf fs v (fun b => S b ∨ Rd b) S) v.heap.size a) [.inRegion ops rest, .code c]) (fc0 := (base f).at a [.inRegion ops rest, .code c]) (StopL := StopL) hz hG (by rw [hFs]; exact hO) hS hR (.inl ⟨rfl, rfl⟩)
    (by
      rw [hFs]
      intro ρ hρ
      refine ⟨rfl, ⟨?_, fun x hx => by obtain ⟨y, _, rfl⟩ := Array.mem_map.1 hx; exact absV_ok _ _ y⟩, ⟨[.inRegion ops rest, .code c], [], [], rfl, rfl, fun it hit => by simp at hit; rcases hit with rfl | rfl; exact hop; exact hc, .here⟩, rfl, hd, .inl ⟨rfl, rfl⟩, rfl, rfl, rfl, rfl⟩
      apply Array.ext (by simp [Frame.at, absA])
      intro i h1 h2
      simp only [Frame.at, absA, Array.getElem_map]
      exact (absV_ren hρ _).symm)
    (by
      rw [hFs]
      intro τ
      obtain ⟨a', w', todo, ⟨hdf, fn, u, hfn, hr, hq⟩, M, hM⟩ := hl τ (base f) [badF]
      exact ⟨M, _, _, w', hM, u, hq, rfl, rfl, rfl, hdf, rfl, fn, hfn, hr⟩)
    (fun fl cl w ⟨u, _, h1, _, h2⟩ => ⟨fun ch h => (by rw [h2.1] at h; cases h), (by rw [h1]; simp)⟩)
  rw [hFs] at U
  refine (Go1.bind (fun s a => RS.refl a) (transfer (main := main) U) fun s g w ⟨ρ, fl, cl, wl, hA, u, hq, hcl, hfn, hlv⟩ => Go1.stop fun w₁ h₁ => ?_)
  subst hcl
  obtain ⟨fc, cc, rfl, hst⟩ := hA.st
  have hfr : FR ⟨P, ρ, Fs⟩ wl.heap.size [] [] fl fc ∧ cc = cs := by
    rcases hst.fr with ⟨h, _, h2⟩ | ⟨_, _, _, h⟩
    · exact ⟨h, h2⟩
    · exfalso
      cases h with
      | cons _ _ _ h => cases h
  obtain ⟨hfr, rfl⟩ := hfr
  obtain ⟨hm, hd, hk, fn, hfn1, hres⟩ := hlv
  have hmode : fc.mode = .returning := by
    rcases hfr.mode with ⟨h1, _⟩ | ⟨_, h2⟩
    · rw [hm] at h1; cases h1
    · exact h2
  have g1 := hf0
  have g5 := hres0
  have g1' : P.funcs[f]? = some fn0 := g1
  rw [hfn] at hfn1
  rw [g1'] at hfn1
  obtain rfl := Option.some.inj hfn1
  obtain ⟨e2, hout⟩ := ret_out (fun b hb h => (hal b hb h).1) hwrs hA hfr g5 hres h₁
  have hwr1 : WR ⟨P, ρ, Fs⟩ wl w₁ := hA.wr.rely fun c hc hca => by
    show w₁.heap[ρ.f c]? = w.heap[ρ.f c]?
    rcases Nat.lt_or_ge c v.heap.size with hb | hb
    · rw [hA.id c hb]
      rcases (hal c hb hca).1 with h | h
      · exact h₁.own c ((hA.mine c).2 (.inl h))
      · exact h₁.rd c h
    · exact h₁.own _ (hA.cover c hb hc)
  exact ⟨⟨ρ, fc, u, wl, rfl, hfr.fn.trans hfn, hmode, hfr.defc, hfr.kindc, ⟨fn0, g1', hout⟩, hq, e2, hA.id, hA.new, hwr1, hA.low, hA.mine⟩, h₁.tape.trans hA.tape, h₁.os.trans hA.os, h₁.output.trans hA.output, Nat.le_trans hA.size h₁.size, fun b hb => (h₁.rd b hb).trans (hA.rd b hb)⟩
end
section
variable {P : Program} {fs : FuncId → Bool} {v : World} {F W : Nat → Prop} {cs : List Frame}
theorem gl_endM {f : FuncId} {fn0 : Func} {c : Code} {ops : Array Oper} {rest : List Nat} {a : Act} {Q : Value → World → Prop} (hsub : ∀ b, W b → F b) (hF : ∀ b, F b → b < v.heap.size) (hz : ZeroOk P) (hG : P.globals.size ≤ v.heap.size) (hO : ∀ f, fs f = true → ∃ fn, P.funcs[f]? = some fn ∧ fnOk P fs fn = true)
    (hf0 : P.funcs[f]? = some fn0) (hres0 : fn0.results.all resOk = true) (hc : codeOk P ⟨fs, fun _ => false, fun _ => false, fun _ => false⟩ c = true) (hop : opsOk P ⟨fs, fun _ => false, fun _ => false, fun _ => false⟩ ops rest = true) (hd : a.defers = []) (hl : ∀ τ, EndsM P ops rest f c Q (absA (fnsQ fs v F W) v.heap.size a) { loneW (fnsQ fs v F W) v with tape := τ, drawn := 0 }) :
    GL P (fun t g w => ∃ s, t = (fun b => (F b ∧ ¬ W b) ∨ s b) ∧ RetC P (fnsQ fs v F W) v (fun b => F b ∧ ¬ W b) W f cs Q s g w) F (G ((base f).at a [.inRegion ops rest, .code c]) cs) v :=
  gl_of hsub (end_companyM hz hG (fun ρ => by unfold fnsOf; exact fnsOk_of hO) (fun b hb => hF b (hsub b hb)) (fun b hb => ⟨hF b hb.1, hb.2⟩) hf0 hres0 (by unfold fnsOf; exact code_mono c hc) (by unfold fnsOf; exact opsOk_mono hop) hd hl)
end
end Go.Proofs.Ytmmolicodlmlkaa.Ph
