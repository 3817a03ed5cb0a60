/-
  Parts of the proof: cmp.Compare of two integers, by contract. The places of a row in ascending order of its elements: plain. A region that draws its order, whose own operations read and whose callees may make memory behind all that there is: walked once, in the order of the text. The library's stable sort of integers, by contract, whatever the comparing function makes: ranges swapped, rotation, merging by halves, blocks. Merging by halves, plain: where the halves are parted. The library's merging by halves (symMerge), by contract: one element and a sorted range; the general step by recursion. No condition.
-/
import Derived.Test.YtmmolicodlmlkaaPG
import Derived.Deep.QuietTactic
import Derived.Shelf.Abstract
import Derived.Deep.RegionLaw
import Derived.BigRegion
set_option linter.unusedVariables false
set_option linter.unusedSimpArgs false
namespace Go.Proofs.Ytmmolicodlmlkaa
open Go.RowKit
set_option linter.unusedVariables false
set_option linter.unusedSimpArgs false

/-- How two integers compare. -/
def cmpI (a b : Int) : Int := if a < b then -1 else if b < a then 1 else 0
theorem isNaN_any (a : Int) (w : World) : Calls Try.prog 122 #[.int .i64 a] w fun e w' => e = .returned (.bool false) ∧ w = w' := by
  go_enter Try.func122, Try.ntmps122
  go_wp2
  go_ret
  exact ⟨by simp, rfl⟩
set_option maxHeartbeats 1600000 in
theorem compare_any (a b : Int) (w : World) : Calls Try.prog 77 #[.int .i64 a, .int .i64 b] w fun e w' => e = .returned (.int .i64 (cmpI a b)) ∧ w = w' := by
  rcases Int.lt_trichotomy a b with h | h | h
  · have hv : cmpI a b = -1 := by unfold cmpI; rw [if_pos h]
    rw [hv]
    clear hv
    go_enter Try.func77, Try.ntmps77
    go_wp2_with (go_at_call 122; refine (isNaN_any _ _).mono ?_; rintro e w' ⟨rfl, rfl⟩)
    go_ret
    exact ⟨rfl, rfl⟩
  · subst h
    have hv : cmpI a a = 0 := by unfold cmpI; rw [if_neg (by omega), if_neg (by omega)]
    rw [hv]
    clear hv
    go_enter Try.func77, Try.ntmps77
    go_wp2_with (go_at_call 122; refine (isNaN_any _ _).mono ?_; rintro e w' ⟨rfl, rfl⟩)
    go_ret
    exact ⟨rfl, rfl⟩
  · have hv : cmpI a b = 1 := by unfold cmpI; rw [if_neg (by omega), if_pos h]
    have h2 : ¬ a < b := by omega
    rw [hv]
    clear hv
    go_enter Try.func77, Try.ntmps77
    go_wp2_with (go_at_call 122; refine (isNaN_any _ _).mono ?_; rintro e w' ⟨rfl, rfl⟩)
    go_ret
    exact ⟨rfl, rfl⟩
end Go.Proofs.Ytmmolicodlmlkaa
namespace Go.Proofs.Ytmmolicodlmlkaa
open Go.RowKit
set_option linter.unusedVariables false

/-- The places 0 to n - 1. -/
def idxL (n : Nat) : List Int := (List.range n).map fun (k : Nat) => (k : Int)
theorem idxL_length (n : Nat) : (idxL n).length = n := by simp [idxL]
theorem idxL_succ (n : Nat) : idxL (n + 1) = idxL n ++ [(n : Int)] := by simp [idxL, List.range_succ]
theorem idxL_mem {n : Nat} {y : Int} (h : y ∈ idxL n) : ∃ k : Nat, y = k ∧ k < n := by
  obtain ⟨k, hk, rfl⟩ := List.mem_map.1 h
  exact ⟨k, rfl, List.mem_range.1 hk⟩
def atR (row : List Int) (a : Int) : Int := row.getD a.toNat 0
/-- How two places compare, by what lies there. -/
def cfR (row : List Int) (a b : Int) : Int := cmpI (atR row a) (atR row b)
def ltR (row : List Int) (a b : Int) : Bool := decide (atR row a < atR row b)
theorem cfR_lt (row : List Int) (a b : Int) : decide (cfR row a b < 0) = ltR row a b := by
  unfold cfR ltR cmpI
  by_cases h : atR row a < atR row b
  · rw [if_pos h, decide_eq_true h]; rfl
  · rw [if_neg h, decide_eq_false h]
    by_cases h2 : atR row b < atR row a
    · rw [if_pos h2]; rfl
    · rw [if_neg h2]; rfl
/-- Ahead: what lies there is less, or the same, and the place is less. -/
def RelR (row : List Int) (a b : Int) : Prop := atR row a < atR row b ∨ (atR row a = atR row b ∧ a < b)
theorem RelR.tr (row : List Int) : ∀ a b c, RelR row a b → RelR row b c → RelR row a c := by
  intro a b c h1 h2
  unfold RelR at *
  omega
theorem RelR.asy (row : List Int) : ∀ a b, RelR row a b → RelR row b a → False := by
  intro a b h1 h2
  unfold RelR at *
  omega
theorem idxL_cr (row : List Int) (n : Nat) : (idxL n).Pairwise (Cr (ltR row) (RelR row)) := by
  have h : (idxL n).Pairwise (· < ·) := by
    unfold idxL
    rw [List.pairwise_map]
    exact List.Pairwise.imp (fun h => by omega) List.pairwise_lt_range
  refine List.Pairwise.imp (fun {a b} h => ?_) h
  unfold Cr ltR RelR
  refine ⟨fun h1 => ?_, fun h1 => ?_⟩
  · have := of_decide_eq_true h1; omega
  · have := of_decide_eq_false h1; omega
/-- The places in ascending order. -/
def ordL (row : List Int) (n : Nat) : List Int := isrt (ltR row) (idxL n)
theorem ordL_length (row : List Int) (n : Nat) : (ordL row n).length = n := by rw [ordL, isrt_length, idxL_length]
theorem ordL_of {row M : List Int} {n : Nat} (h : Mg (RelR row) (idxL n) M) : M = ordL row n := mg_isrt (RelR.tr row) (RelR.asy row) (idxL_cr row n) h
end Go.Proofs.Ytmmolicodlmlkaa
namespace Go.Proofs.Ytmmolicodlmlkaa
open Go.RowKit
set_option linter.unusedVariables false

/-- How far a world lies behind another one: what has been drawn, what has been made. -/
structure BehindBy where
  n : Nat
  os : Array Obj
instance : Inhabited BehindBy := ⟨⟨0, #[]⟩⟩
def behind (w : World) (p : BehindBy) : World := { w with heap := w.heap ++ p.os, drawn := p.n }
section
variable {w w' : World} {p : BehindBy}
theorem behind_below (w : World) (p : BehindBy) : Below w.heap.size w (behind w p) :=
  ⟨rfl, rfl, rfl, by simp [behind], fun k hk => by simp [behind, Array.getElem?_append, hk]⟩
theorem below_behind (h : Below w.heap.size w w') : ∃ p : BehindBy, w' = behind w p := by
  refine ⟨⟨w'.drawn, w'.heap.extract w.heap.size w'.heap.size⟩, ?_⟩
  have e : w'.heap = w.heap ++ w'.heap.extract w.heap.size w'.heap.size := by
    apply Array.ext_getElem?
    intro i
    rw [Array.getElem?_append]
    by_cases hi : i < w.heap.size
    · rw [if_pos hi, h.block i hi]
    · rw [if_neg hi, Array.getElem?_extract]
      by_cases h2 : i < w'.heap.size
      · rw [if_pos (by omega)]
        congr 1
        omega
      · rw [if_neg (by omega), Array.getElem?_eq_none (by omega)]
  have h1 := h.os
  have h2 := h.tape
  have h3 := h.output
  cases w'
  simp only at h1 h2 h3 e
  subst h1 h2 h3
  simp only [behind]
  congr 1
theorem cell_behind {a : Addr} {v : Value} (h : w.cell? a = some v) (p : BehindBy) : (behind w p).cell? a = some v :=
  ((behind_below w p).cell (World.block_lt_of_cell? w a h)).trans h
theorem behind_all (h : ∃ p : BehindBy, w' = behind w p) : Below w.heap.size w w' := by
  obtain ⟨p, rfl⟩ := h
  exact behind_below w p
theorem wp_region_quiet_below {P : Program} {id : Nat} {Q : Exit → Act → World → Prop} {a : Act} {w : World} {l : List Oper} (hm : P.follows .mixedOrders = true) (hB : Region.lexB .any l.toArray = true)
    (h : wpQuiet P l.toArray (fun w' => ∃ p : BehindBy, w' = behind w p) (fun a' => ∀ w', (∃ p : BehindBy, w' = behind w p) → Q .normal a' w') l a) : (Code.region id l.toArray true).wp P Q a w :=
  wp_region_quiet (C := fun w' => ∃ p : BehindBy, w' = behind w p) hm hB (below_behind (⟨rfl, rfl, rfl, Nat.le_refl _, fun _ _ => rfl⟩)) (by simpa using h)
/-- A callee's contract, met behind w. -/
theorem calls_behind {P : Program} {f : FuncId} {args : Array Value} {v : Value} (h : Calls P f args (behind w p) fun e w' => e = .returned v ∧ Below (behind w p).heap.size (behind w p) w') :
    Calls P f args (behind w p) fun e w'' => e = .returned v ∧ ∃ q : BehindBy, w'' = behind w q :=
  h.mono fun _ _ ⟨he, hb⟩ => ⟨he, below_behind ((behind_below w p).trans (hb.mono (behind_below w p).size))⟩
end
end Go.Proofs.Ytmmolicodlmlkaa
namespace Go.Proofs.Ytmmolicodlmlkaa
open Go.RowKit Go.Shelf
set_option linter.unusedVariables false
set_option linter.unusedSimpArgs false

/-- Below B all but block g stands. -/
structure Bes (g B : Nat) (w w' : World) : Prop where
  os : w'.os = w.os
  tape : w'.tape = w.tape
  output : w'.output = w.output
  size : w.heap.size ≤ w'.heap.size
  block : ∀ k, k < B → k ≠ g → w'.heap[k]? = w.heap[k]?
section
variable {g B : Nat} {w w' w'' : World}
theorem Bes.refl (g B : Nat) (w : World) : Bes g B w w := ⟨rfl, rfl, rfl, Nat.le_refl _, fun _ _ _ => rfl⟩
theorem Bes.trans (h : Bes g B w w') (k : Bes g B w' w'') : Bes g B w w'' := ⟨k.os.trans h.os, k.tape.trans h.tape, k.output.trans h.output, Nat.le_trans h.size k.size, fun i h1 h2 => (k.block i h1 h2).trans (h.block i h1 h2)⟩
theorem Bes.below (h : Below w.heap.size w w') (hB : B ≤ w.heap.size) : Bes g B w w' := ⟨h.os, h.tape, h.output, h.size, fun i h1 _ => h.block i (Nat.lt_of_lt_of_le h1 hB)⟩
theorem Bes.set_ (h : Bes g B w w') (i : Nat) (u : Value) : Bes g B w (w'.setCell ⟨g, i, none⟩ u) :=
  h.trans ⟨rfl, rfl, rfl, by simp, fun k _ hk => Below.heap_setCell w' ⟨g, i, none⟩ u k hk⟩
theorem Bes.drew1 (h : Bes g B w w') : Bes g B w w'.drew := ⟨h.os, h.tape, h.output, h.size, h.block⟩
theorem Bes.drewN (h : Bes g B w w') (n : Nat) : Bes g B w (w'.drewN n) := ⟨h.os, h.tape, h.output, h.size, h.block⟩
end
/-- Block g holds the integers x, and something behind them. -/
def Dat (w : World) (g : Nat) (ex : List Value) (x : List Int) : Prop := Blk w g 2 (x.map (Value.int .i64) ++ ex)
section
variable {g B : Nat} {w w' : World} {ex : List Value} {x : List Int}
theorem Dat.at_ (h : Dat w g ex x) {i : Nat} {u : Int} (hi : x[i]? = some u) : w.cell? ⟨g, i, none⟩ = some (.int .i64 u) ∧ w.frozen? ⟨g, i, none⟩ = false := by
  refine ⟨Blk.cell h ?_, Blk.frozen h i⟩
  have hl : i < x.length := (List.getElem?_eq_some_iff.1 hi).1
  rw [List.getElem?_append_left (by simpa using hl), List.getElem?_map, hi]; rfl
theorem Dat.set_ (h : Dat w g ex x) {i : Nat} (hi : i < x.length) (u : Int) : Dat (w.setCell ⟨g, i, none⟩ (.int .i64 u)) g ex (x.set i u) := by
  have h1 := Blk.set_ h i (.int .i64 u)
  unfold Dat
  rw [List.map_set, ← List.set_append_left _ _ (by simpa using hi)]
  exact h1
theorem Dat.below (h : Dat w g ex x) (hb : Below w.heap.size w w') : Dat w' g ex x := Blk.below h hb
theorem Dat.drew1 (h : Dat w g ex x) : Dat w.drew g ex x := h
theorem Dat.drewN (h : Dat w g ex x) (n : Nat) : Dat (w.drewN n) g ex x := h
theorem Dat.two (h : Dat w g ex x) {i j : Nat} {u v : Int} {y : List Int} (hi : i < x.length) (hj : j < x.length) (hy : (x.set i v).set j u = y) : Dat ((w.setCell ⟨g, i, none⟩ (.int .i64 v)).setCell ⟨g, j, none⟩ (.int .i64 u)) g ex y := by
  have h1 := (h.set_ hi v).set_ (i := j) (by simpa using hj) u
  rwa [hy] at h1
end
/-- What the sort's parts leave. -/
def RetD (g B : Nat) (ex : List Value) (w : World) (x : List Int) (e : Ending) (w' : World) : Prop := e = .returned (.tuple #[]) ∧ Dat w' g ex x ∧ Bes g B w w'
set_option maxRecDepth 100000 in
set_option maxHeartbeats 1600000 in
theorem swapRange_any (g B c N a b n : Nat) (ex : List Value) (A U M V C : List Int) (fv : Value) (w : World) (hU : Hid (U.length = n)) (hV : Hid (V.length = n)) (ha : Hid (A.length = a)) (hb : Hid (a + n + M.length = b)) (hN : b + n ≤ N) (hN2 : N ≤ 1048576)
    (hab : a + n ≤ b) (hD : Dat w g ex (A ++ (U ++ (M ++ (V ++ C))))) :
    Calls Try.prog 182 #[.slice (some ⟨g, 0, none⟩) N c, .int .i64 a, .int .i64 b, .int .i64 n, fv] w (RetD g B ex w (A ++ (V ++ (M ++ (U ++ C))))) := by
  have D0 : Hid (Dat w g ex (srL A U M V C 0)) := by show Dat _ _ _ _; rw [srL_zero]; exact hD
  clear hD
  go_enter Try.func182, Try.ntmps182
  go_wp2
  go_loopw [10] (fun t wr => ∃ k : Nat, k ≤ n ∧ t = .int .i64 k ∧ Hid (Dat wr g ex (srL A U M V C k)) ∧ Hid (Bes g B w wr)) (fun t _ => n - (intOf t).toNat)
  case atStart => exact ⟨0, Nat.zero_le _, rfl, D0, Bes.refl _ _ _⟩
  case round =>
    obtain ⟨k, hk, rfl, hD, hW⟩ := hrel
    by_cases hlt : k < n
    · have hi : (k : Int) < (n : Int) := by omega
      obtain ⟨u, v, h1, h2, h3⟩ := srL_one (A := A) (B := M) (C := C) hU.out hV.out hlt
      have hl := srL_length (A := A) (B := M) (C := C) hU.out hV.out hk
      have ha' := ha.out
      have hb' := hb.out
      rw [ha', hb'] at h2 h3
      rw [ha'] at h1
      obtain ⟨i1, hi1⟩ : ∃ i1, i1 = a + k := ⟨_, rfl⟩
      obtain ⟨j1, hj1⟩ : ∃ j1, j1 = b + k := ⟨_, rfl⟩
      rw [← hi1] at h1 h3
      rw [← hj1] at h2 h3
      obtain ⟨c1, f1⟩ := hD.out.at_ h1
      obtain ⟨c2, f2⟩ := hD.out.at_ h2
      have H3 : Hid (Dat ((wr.setCell ⟨g, i1, none⟩ (.int .i64 v)).setCell ⟨g, j1, none⟩ (.int .i64 u)) g ex (srL A U M V C (k + 1))) := hD.out.two (by omega) (by omega) h3
      have v1 : IntKind.i64.wrap ((a : Int) + (k : Int)) = (i1 : Int) := by rw [IntKind.wrap_i64]; omega
      have v2 : IntKind.i64.wrap ((b : Int) + (k : Int)) = (j1 : Int) := by rw [IntKind.wrap_i64]; omega
      have b1 : (i1 : Int) < (N : Int) := by omega
      have b2 : (j1 : Int) < (N : Int) := by omega
      have b3 : i1 ≠ j1 := by omega
      have b4 : j1 ≠ i1 := by omega
      clear h1 h2 h3 hl ha' hb' hi1 hj1 hD
      go_wp2
      go_big_region
      go_wp2
      exact ⟨⟨k + 1, by omega, by go_num, H3.out.drew1, ((hW.out.set_ i1 _).set_ j1 _).drew1⟩, by simp [intOf]; omega⟩
    · have hi : ¬ (k : Int) < (n : Int) := by omega
      obtain rfl : k = n := by omega
      have h5 : Hid (Dat wr g ex (A ++ (V ++ (M ++ (U ++ C))))) := by have h6 := hD.out; rw [srL_all hU.out hV.out] at h6; exact h6
      clear hD
      go_wp2
      go_end0
      exact ⟨rfl, h5.out, hW.out⟩
set_option maxRecDepth 100000 in
set_option maxHeartbeats 1600000 in
theorem rotate_any (g B c N a m b : Nat) (ex : List Value) (A U V C : List Int) (fv : Value) (w : World) (ha : Hid (A.length = a)) (hm : Hid (a + U.length = m)) (hb : Hid (m + V.length = b)) (hN : b ≤ N) (hN2 : N ≤ 1048576) (hU : 0 < U.length) (hV : 0 < V.length)
    (hD : Dat w g ex (A ++ (U ++ (V ++ C)))) :
    Calls Try.prog 166 #[.slice (some ⟨g, 0, none⟩) N c, .int .i64 a, .int .i64 m, .int .i64 b, fv] w (RetD g B ex w (A ++ (V ++ (U ++ C)))) := by
  have D0 := hid hD
  obtain ⟨T, hT⟩ : ∃ T, T = A ++ (V ++ (U ++ C)) := ⟨_, rfl⟩
  rw [← hT]
  have T0 := hid hT.symm
  obtain ⟨i0, hi0⟩ : ∃ i0, i0 = U.length := ⟨_, rfl⟩
  obtain ⟨j0, hj0⟩ : ∃ j0, j0 = V.length := ⟨_, rfl⟩
  have I0 := hid hi0.symm
  have J0 := hid hj0.symm
  have e1 : IntKind.i64.wrap ((m : Int) - (a : Int)) = (i0 : Int) := by have := hm.out; rw [IntKind.wrap_i64]; have := hb.out; omega
  have e2 : IntKind.i64.wrap ((b : Int) - (m : Int)) = (j0 : Int) := by have := hb.out; rw [IntKind.wrap_i64]; have := hm.out; omega
  have hA : Hid (A.length + i0 = m) := by show _ = _; have := hm.out; have := ha.out; omega
  have hB : Hid (m + j0 = b) := by show _ = _; have := hb.out; omega
  have hbb : m ≤ N := by have := hb.out; omega
  have hi00 : 0 < i0 := by omega
  have hj00 : 0 < j0 := by omega
  clear hD hT hi0 hj0 hm hb ha hU hV
  go_enter Try.func166, Try.ntmps166
  go_wp2
  clear e1 e2
  go_loopw [10, 11] (fun ti tj wr => ∃ (i j : Nat) (P U' V' S : List Int), ti = .int .i64 i ∧ tj = .int .i64 j ∧ 0 < i ∧ 0 < j ∧ i ≤ m ∧ m + j ≤ b ∧ Hid (U'.length = i) ∧ Hid (V'.length = j) ∧ Hid (P.length + i = m) ∧ Hid (P ++ (V' ++ (U' ++ S)) = T) ∧ Hid (Dat wr g ex (P ++ (U' ++ (V' ++ S)))) ∧ Hid (Bes g B w wr)) (fun ti tj _ => (intOf ti).toNat + (intOf tj).toNat)
  case atStart => exact ⟨i0, j0, A, U, V, C, rfl, rfl, hi00, hj00, by have := hA.out; omega, by have := hB.out; omega, I0, J0, hA, T0, D0, Bes.refl _ _ _⟩
  case round =>
    obtain ⟨i, j, P, U', V', S, rfl, rfl, hip, hjp, him, hmj, hUl, hVl, hP, hTT, hD, hW⟩ := hrel
    have v0 : IntKind.i64.wrap ((m : Int) - (i : Int)) = ((m - i : Nat) : Int) := by rw [IntKind.wrap_i64]; omega
    by_cases hij : i = j
    · subst hij
      have hne : ((i : Int) != (i : Int)) = false := by simp
      have C1 : Hid (Calls Try.prog 182 #[.slice (some ⟨g, 0, none⟩) N c, .int .i64 ((m - i : Nat) : Int), .int .i64 m, .int .i64 i, fv] wr (RetD g B ex wr (P ++ (V' ++ ([] ++ (U' ++ S)))))) :=
        swapRange_any g B c N (m - i) m i ex P U' [] V' S fv wr hUl hVl (by show _ = _; have := hP.out; omega) (by show _ = _; simp; omega) (by omega) hN2 (by omega) hD.out
      clear hUl hVl hP hD
      go_wp2_with (go_at_call 182; (with_reducible refine C1.out.mono ?_); rintro e w1 ⟨rfl, hD1, hW1⟩)
      go_end0
      exact ⟨rfl, by rw [← hTT.out]; exact hD1, hW.out.trans hW1⟩
    · have hne : ((i : Int) != (j : Int)) = true := by simp; omega
      by_cases hgt : j < i
      · have hgti : (j : Int) < (i : Int) := by omega
        have C1 : Hid (Calls Try.prog 182 #[.slice (some ⟨g, 0, none⟩) N c, .int .i64 ((m - i : Nat) : Int), .int .i64 m, .int .i64 j, fv] wr (RetD g B ex wr (P ++ (V' ++ (U'.drop j ++ (U'.take j ++ S)))))) :=
          swapRange_any g B c N (m - i) m j ex P (U'.take j) (U'.drop j) V' S fv wr (by show _ = _; have := hUl.out; simp; omega) hVl (by show _ = _; have := hP.out; omega) (by show _ = _; have := hUl.out; simp; omega) (by omega) hN2 (by omega) (by have h := hD.out; rw [← List.take_append_drop j U', List.append_assoc] at h; exact h)
        have e3 : IntKind.i64.wrap ((i : Int) - (j : Int)) = ((i - j : Nat) : Int) := by rw [IntKind.wrap_i64]; omega
        have n1 : Hid ((U'.drop j).length = i - j) := by show _ = _; rw [List.length_drop, hUl.out]
        have n2 : Hid ((U'.take j).length = j) := by show _ = _; rw [List.length_take, hUl.out]; omega
        have n3 : Hid ((P ++ V').length + (i - j) = m) := by show _ = _; rw [List.length_append, hVl.out]; have := hP.out; omega
        have n4 : Hid ((P ++ V') ++ (U'.take j ++ (U'.drop j ++ S)) = T) := by show _ = _; rw [← hTT.out, ← List.append_assoc (U'.take j), List.take_append_drop, List.append_assoc]
        clear hUl hVl hP hD hTT hij
        go_wp2_with (go_at_call 182; (with_reducible refine C1.out.mono ?_); rintro e w1 ⟨rfl, hD1, hW1⟩)
        have D1 : Hid (Dat w1 g ex ((P ++ V') ++ (U'.drop j ++ (U'.take j ++ S)))) := by show Dat _ _ _ _; rw [List.append_assoc]; exact hD1
        exact ⟨⟨i - j, j, P ++ V', U'.drop j, U'.take j, S, rfl, rfl, by omega, hjp, by omega, hmj, n1, n2, n3, n4, D1, hW.out.trans hW1⟩, by simp [intOf]; omega⟩
      · have hgti : ¬ (j : Int) < (i : Int) := by omega
        have C1 : Hid (Calls Try.prog 182 #[.slice (some ⟨g, 0, none⟩) N c, .int .i64 ((m - i : Nat) : Int), .int .i64 ((m + j - i : Nat) : Int), .int .i64 i, fv] wr (RetD g B ex wr (P ++ (V'.drop (j - i) ++ (V'.take (j - i) ++ (U' ++ S)))))) :=
          swapRange_any g B c N (m - i) (m + j - i) i ex P U' (V'.take (j - i)) (V'.drop (j - i)) S fv wr hUl (by show _ = _; have := hVl.out; simp; omega) (by show _ = _; have := hP.out; omega) (by show _ = _; have := hVl.out; simp; omega) (by omega) hN2 (by omega) (by have h := hD.out; rw [← List.take_append_drop (j - i) V', List.append_assoc (V'.take (j - i))] at h; exact h)
        have e3 : IntKind.i64.wrap ((j : Int) - (i : Int)) = ((j - i : Nat) : Int) := by rw [IntKind.wrap_i64]; omega
        have n1 : Hid ((V'.drop (j - i)).length = i) := by show _ = _; rw [List.length_drop, hVl.out]; omega
        have n2 : Hid ((V'.take (j - i)).length = j - i) := by show _ = _; rw [List.length_take, hVl.out]; omega
        have n4 : Hid (P ++ (V'.take (j - i) ++ (V'.drop (j - i) ++ (U' ++ S))) = T) := by show _ = _; rw [← hTT.out, ← List.append_assoc (V'.take (j - i)), List.take_append_drop]
        have e4 : IntKind.i64.wrap ((m : Int) + (j : Int)) = (m : Int) + (j : Int) := by rw [IntKind.wrap_i64]; omega
        have e5 : IntKind.i64.wrap ((m : Int) + (j : Int) - (i : Int)) = ((m + j - i : Nat) : Int) := by rw [IntKind.wrap_i64]; omega
        have hij' : i < j := by omega
        clear hUl hVl hD hTT hij
        go_wp2_with (go_at_call 182; (with_reducible refine C1.out.mono ?_); rintro e w1 ⟨rfl, hD1, hW1⟩)
        clear e3 e4 e5 v0
        exact ⟨⟨i, j - i, P, V'.drop (j - i), V'.take (j - i), U' ++ S, rfl, rfl, hip, by omega, him, by omega, n1, n2, hP, n4, hD1, hW.out.trans hW1⟩, by simp [intOf]; omega⟩
/-- What is asked of the comparing function, in all worlds that differ from w0, below B, in block g alone. -/
structure CmpOk (f : Nat) (cb : Array Value) (g B : Nat) (w0 : World) (E : Int → Prop) (cf : Int → Int → Int) : Prop where
  enters : ∀ args w, (callFunc f args).run Try.prog w = .ok (.enter f args) w
  room : B ≤ w0.heap.size
  call : ∀ w, Bes g B w0 w → ∀ u v, E u → E v → Calls Try.prog f (#[.int .i64 u, .int .i64 v] ++ cb) w fun e w' => e = .returned (.int .i64 (cf u v)) ∧ Below w.heap.size w w'
def ltC (cf : Int → Int → Int) (u v : Int) : Bool := decide (cf u v < 0)
theorem app_at {α : Type} {A Y : List α} {a i j : Nat} (ha : A.length = a) (hi : i = a + j) : (A ++ Y)[i]? = Y[j]? := by
  subst ha hi
  rw [List.getElem?_append_right (by omega), Nat.add_sub_cancel_left]
theorem app_set {α : Type} {A Y : List α} {a i j : Nat} {v : α} (ha : A.length = a) (hi : i = a + j) : (A ++ Y).set i v = A ++ Y.set j v := by
  subst ha hi
  rw [List.set_append_right _ _ (by omega), Nat.add_sub_cancel_left]
theorem isrt_sub {lt : Int → Int → Bool} : ∀ (l : List Int) {z : Int}, z ∈ isrt lt l → z ∈ l := by
  intro l
  suffices h : ∀ (l a : List Int) (z : Int), z ∈ l.foldl (insR lt) a → z ∈ l ∨ z ∈ a by
    intro z hz
    rcases h l [] z hz with h | h
    · exact h
    · simp at h
  intro l
  induction l with
  | nil => intro a z hz; exact .inr hz
  | cons y l ih =>
    intro a z hz
    rcases ih _ z hz with h | h
    · exact .inl (List.mem_cons_of_mem _ h)
    · unfold insR at h
      rcases List.mem_append.1 h with h | h
      · exact .inr (List.mem_of_mem_take h)
      · rcases List.mem_cons.1 h with h | h
        · subst h; exact .inl List.mem_cons_self
        · exact .inr (List.mem_of_mem_drop h)
theorem Bes.call {g B : Nat} {w w' w'' : World} (h : Bes g B w w') (hb : Below w'.heap.size w' w'') (hB : B ≤ w.heap.size) : Bes g B w w'' := h.trans (Bes.below hb (Nat.le_trans hB h.size))
set_option maxRecDepth 100000 in
set_option maxHeartbeats 3200000 in
theorem insertion_any (g B c N a b f : Nat) (cb : Array Value) (ex : List Value) (A X C : List Int) (cf : Int → Int → Int) (E : Int → Prop) (w0 w : World) (hc : CmpOk f cb g B w0 E cf) (hw : Bes g B w0 w) (hE : ∀ y ∈ X, E y)
    (ha : Hid (A.length = a)) (hb : Hid (a + X.length = b)) (hN : b ≤ N) (hN2 : N ≤ 1048576) (hD : Dat w g ex (A ++ (X ++ C))) :
    Calls Try.prog 137 #[.slice (some ⟨g, 0, none⟩) N c, .int .i64 a, .int .i64 b, .func (.func f) #[] cb] w (RetD g B ex w (A ++ (isrt (ltC cf) X ++ C))) := by
  have HC := hid hc
  have eg := hc.enters
  have ha1 : a ≤ b := by have := hb.out; omega
  have W0 := hid hw
  have HE := hid hE
  have D0 : Hid (Dat w g ex (A ++ (isrt (ltC cf) (X.take 1) ++ (X.drop 1 ++ C)))) := by
    show Dat _ _ _ _
    have e : isrt (ltC cf) (X.take 1) = X.take 1 := by cases X <;> simp [isrt, insR, posR]
    rw [e, ← List.append_assoc (X.take 1), List.take_append_drop]; exact hD
  clear hc hw hE hD
  go_enter Try.func137, Try.ntmps137
  go_wp2
  go_loopw [8] (fun t wr => ∃ k i : Nat, 0 < k ∧ (k ≤ X.length ∨ X.length = 0) ∧ i = a + k ∧ t = .int .i64 i ∧ Hid (Dat wr g ex (A ++ (isrt (ltC cf) (X.take k) ++ (X.drop k ++ C)))) ∧ Hid (Bes g B w wr)) (fun t _ => b - (intOf t).toNat)
  case atStart => exact ⟨1, a + 1, by omega, by omega, rfl, by go_num, D0, Bes.refl _ _ _⟩
  case round =>
    obtain ⟨k, i, hk, hkX, hik, rfl, hD, hW⟩ := hrel
    have hb' := hb.out
    by_cases hlt : i < b
    · have hi : (i : Int) < (b : Int) := by omega
      obtain ⟨y, hy⟩ : ∃ y, X[k]? = some y := ⟨_, List.getElem?_eq_getElem (by omega)⟩
      have hEy := HE.out y (List.mem_of_getElem? hy)
      have hlen := isrt_take_length (ltC cf) (l := X) (k := k) (by omega)
      have hd : X.drop k = y :: X.drop (k + 1) := by
        obtain ⟨h, rfl⟩ := List.getElem?_eq_some_iff.1 hy
        exact List.drop_eq_getElem_cons h
      have hnext := hid (isrt_at (lt := ltC cf) hy)
      have hEL : Hid (∀ z ∈ isrt (ltC cf) (X.take k), E z) := fun z hz => by
        exact HE.out z (List.mem_of_mem_take (isrt_sub _ hz))
      obtain ⟨L, hL⟩ : ∃ L, L = isrt (ltC cf) (X.take k) := ⟨_, rfl⟩
      obtain ⟨rest, hrest⟩ : ∃ r, r = X.drop (k + 1) ++ C := ⟨_, rfl⟩
      rw [← hL] at hlen hnext hEL
      have O2 : Hid (Dat wr g ex (A ++ midR L y k rest)) := by
        have h2 := hD.out
        rw [hd, ← hL, List.cons_append, ← hrest] at h2
        have h3 := midR_top L y rest
        rw [hlen] at h3
        rw [h3]; exact h2
      have HREST := hid hrest
      have HLEN := hid hlen
      have HIK := hid hik
      have hik1 : i ≤ a + k ∧ a + k ≤ i := by omega
      have HY := hid hEy
      clear hD hd hL hrest hlen hy hik hEy
      go_wp2
      go_loopw [9] (fun t wq => ∃ j p : Nat, j ≤ k ∧ p = a + j ∧ t = .int .i64 p ∧ Hid (posR (ltC cf) y L j = posR (ltC cf) y L L.length) ∧ Hid (Dat wq g ex (A ++ midR L y j rest)) ∧ Hid (Bes g B w wq)) (fun t _ => (intOf t).toNat)
      case atStart => exact ⟨k, i, Nat.le_refl _, HIK.out, rfl, by have := HLEN.out; show _ = _; rw [this], O2, hW⟩
      case round =>
        obtain ⟨j, p, hj, hpj, rfl, hpos, hOq, hWq⟩ := hrel
        cases j with
        | zero =>
          have hgd : decide (a < p) = false := decide_eq_false (by omega)
          have hgd' : ¬ a < p := by omega
          have hfin : Hid (Dat wr g ex (A ++ (isrt (ltC cf) (X.take (k + 1)) ++ (X.drop (k + 1) ++ C)))) := by
            show Dat _ _ _ _
            have h := hOq.out
            rw [midR_end (lt := ltC cf) (by rw [← hpos.out]; rfl), HREST.out, ← hnext.out] at h
            exact h
          clear hpj hOq
          go_wp2
          go_quiet (fail)
          go_wp2
          exact ⟨⟨k + 1, i + 1, by omega, by omega, by omega, by go_num, hfin, hWq.out.drewN _⟩, by simp [intOf]; omega⟩
        | succ j =>
          obtain ⟨z, hz⟩ : ∃ z, L[j]? = some z := ⟨_, List.getElem?_eq_getElem (by have := HLEN.out; omega)⟩
          have hEz := hEL.out z (List.mem_of_getElem? hz)
          have hlj : j ≤ L.length ∧ j + 1 ≤ L.length := by have := HLEN.out; omega
          obtain ⟨q, hq⟩ : ∃ q, q = a + j := ⟨_, rfl⟩
          have h1 : (A ++ midR L y (j + 1) rest)[p]? = some y := by rw [app_at ha.out hpj]; exact midR_at hlj.2
          have h2 : (A ++ midR L y (j + 1) rest)[q]? = some z := by rw [app_at ha.out hq]; exact midR_below hz
          have h3 : ((A ++ midR L y (j + 1) rest).set p z).set q y = A ++ midR L y j rest := by rw [app_set ha.out hpj, app_set ha.out hq, midR_swap hz]
          obtain ⟨c1, f1⟩ := hOq.out.at_ h1
          obtain ⟨c2, f2⟩ := hOq.out.at_ h2
          have l1 := (List.getElem?_eq_some_iff.1 h1).1
          have l2 := (List.getElem?_eq_some_iff.1 h2).1
          have hgd : decide (a < p) = true := decide_eq_true (by omega)
          have hgd' : a < p := by omega
          have e6 : IntKind.i64.wrap ((p : Int) - 1) = (q : Int) := by rw [IntKind.wrap_i64]; omega
          have b1 : (p : Int) < (N : Int) := by omega
          have b2 : (q : Int) < (N : Int) := by omega
          have b3 : p ≠ q := by omega
          have b4 : q ≠ p := by omega
          have hqp : q < p := by omega
          have CC : Hid (∀ w', Bes g B w w' → Calls Try.prog f (#[.int .i64 y, .int .i64 z] ++ cb) w' fun e w'' => e = .returned (.int .i64 (cf y z)) ∧ Below w'.heap.size w' w'') := fun w' h => HC.out.call w' (W0.out.trans h) y z HY.out hEz
          have HSW : Hid (∀ w', Dat w' g ex (A ++ midR L y (j + 1) rest) → Dat ((w'.setCell ⟨g, p, none⟩ (.int .i64 z)).setCell ⟨g, q, none⟩ (.int .i64 y)) g ex (A ++ midR L y j rest)) := fun w' h => h.two l1 l2 h3
          have hgo := posR_go (lt := ltC cf) (x := y) hz
          have hst := posR_stop (lt := ltC cf) (x := y) hz
          obtain ⟨v, hv⟩ : ∃ v, v = cf y z := ⟨_, rfl⟩
          rw [← hv] at CC
          have hltv : ltC cf y z = decide (v < 0) := by rw [hv]; rfl
          rw [hltv] at hgo hst
          have HQ := hid hq
          have HP := hid hpj
          have H1 := hid h1
          have H2 := hid h2
          clear h1 h2 h3 l1 l2 hv hltv hz hlj hq hpj hEz
          have k1 : ∀ p', (behind wr p').cell? ⟨g, p, none⟩ = some (.int .i64 y) := cell_behind c1
          have k2 : ∀ p', (behind wr p').cell? ⟨g, q, none⟩ = some (.int .i64 z) := cell_behind c2
          have CB : Hid (∀ p', Calls Try.prog f (#[.int .i64 y, .int .i64 z] ++ cb) (behind wr p') fun e w'' => e = .returned (.int .i64 v) ∧ ∃ q : BehindBy, w'' = behind wr q) := fun p' => calls_behind (CC.out _ (hWq.out.call (behind_below wr p') (Nat.le_trans HC.out.room W0.out.size)))
          clear c1 c2 f1 f2 CC
          by_cases hvz : v < 0
          · have hp2 : Hid (posR (ltC cf) y L j = posR (ltC cf) y L L.length) := by show _ = _; rw [← hpos.out, hgo (decide_eq_true hvz)]
            clear hgo hst
            go_wp2
            refine wp_region_quiet_below (by kernel_rfl) (by kernel_rfl) ?_
            repeat (quiet_step ((go_at_fn f; exact CB.out _)))
            refine wpQuiet_nil ?_
            intro w3 hw3
            have hbb := behind_all hw3
            have O3 := hid (hOq.out.below hbb)
            have W3 := hid (hWq.out.call hbb (Nat.le_trans HC.out.room W0.out.size))
            obtain ⟨m1, g1⟩ := O3.out.at_ H1.out
            obtain ⟨m2, g2⟩ := O3.out.at_ H2.out
            have DN := hid (HSW.out w3 O3.out)
            clear hbb hw3 k1 k2 hOq HSW
            go_wp2
            go_big_region
            go_wp2
            exact ⟨⟨j, q, by omega, HQ.out, by go_num, hp2, DN.out.drew1, ((W3.out.set_ p _).set_ q _).drew1⟩, by simp [intOf]; omega⟩
          · have hfin : Hid (∀ w', Dat w' g ex (A ++ midR L y (j + 1) rest) → Dat w' g ex (A ++ (isrt (ltC cf) (X.take (k + 1)) ++ (X.drop (k + 1) ++ C)))) := fun w' h => by
              rw [midR_end (lt := ltC cf) (by rw [← hpos.out]; exact hst (decide_eq_false hvz)), HREST.out, ← hnext.out] at h
              exact h
            clear hgo hst
            go_wp2
            refine wp_region_quiet_below (by kernel_rfl) (by kernel_rfl) ?_
            repeat (quiet_step ((go_at_fn f; exact CB.out _)))
            refine wpQuiet_nil ?_
            intro w3 hw3
            have hbb := behind_all hw3
            have O3 := hid (hfin.out _ (hOq.out.below hbb))
            have W3 := hid (hWq.out.call hbb (Nat.le_trans HC.out.room W0.out.size))
            clear hbb hw3 k1 k2 hOq HSW hfin
            go_wp2
            exact ⟨⟨k + 1, i + 1, by omega, by omega, by omega, by go_num, O3, W3⟩, by simp [intOf]; omega⟩
    · have hi : ¬ (i : Int) < (b : Int) := by omega
      have hfin : Hid (Dat wr g ex (A ++ (isrt (ltC cf) X ++ C))) := by
        show Dat _ _ _ _
        have h := hD.out
        rw [List.take_of_length_le (by omega), List.drop_of_length_le (by omega), List.nil_append] at h
        exact h
      clear hD hik hb'
      go_wp2
      go_end0
      exact ⟨rfl, hfin.out, hW.out⟩
end Go.Proofs.Ytmmolicodlmlkaa
namespace Go.Proofs.Ytmmolicodlmlkaa
set_option linter.unusedVariables false
set_option linter.unusedSimpArgs false
variable {α : Type} {lt : α → α → Bool} {R : α → α → Prop}

theorem cross_idx {L M : List α} {i j : Nat} (tr : ∀ a b c, R a b → R b c → R a c) (hL : L.Pairwise R) (hM : M.Pairwise R) (hi : i ≤ L.length) (hj : j ≤ M.length)
    (h1 : ∀ y z, 0 < i → L[i - 1]? = some y → M[j]? = some z → R y z) (h2 : ∀ y z, 0 < j → M[j - 1]? = some y → L[i]? = some z → R y z) : ∀ y ∈ L.take i ++ M.take j, ∀ z ∈ L.drop i ++ M.drop j, R y z := by
  have last : ∀ {X : List α} {k : Nat}, k ≤ X.length → ∀ y, y ∈ (X.take k).getLast? → 0 < k ∧ X[k - 1]? = some y := by
    intro X k hk y hy
    rcases Nat.eq_zero_or_pos k with rfl | hp
    · simp at hy
    · refine ⟨hp, ?_⟩
      have h3 : (X.take k).length = k := by simp; omega
      rw [Option.mem_def, List.getLast?_eq_getElem?, h3, List.getElem?_take_of_lt (by omega)] at hy
      exact hy
  refine cross_all tr (by rw [List.take_append_drop]; exact hL) (by rw [List.take_append_drop]; exact hM) ?_ ?_
  · intro y hy z hz
    obtain ⟨hp, hy'⟩ := last hi y hy
    rw [Option.mem_def, List.head?_drop] at hz
    exact h1 y z hp hy' hz
  · intro y hy z hz
    obtain ⟨hp, hy'⟩ := last hj y hy
    rw [Option.mem_def, List.head?_drop] at hz
    exact h2 y z hp hy' hz
theorem seg1 {A L M C : List α} {a k : Nat} (ha : A.length = a) (h1 : a ≤ k) (h2 : k < a + L.length) : (A ++ (L ++ (M ++ C)))[k]? = L[k - a]? := by
  subst ha
  rw [List.getElem?_append_right h1, List.getElem?_append_left (by omega)]
theorem seg2 {A L M C : List α} {m k : Nat} (hm : A.length + L.length = m) (h1 : m ≤ k) (h2 : k < m + M.length) : (A ++ (L ++ (M ++ C)))[k]? = M[k - m]? := by
  subst hm
  rw [List.getElem?_append_right (by omega), List.getElem?_append_right (by omega), List.getElem?_append_left (by omega)]
  congr 1
  omega
/-- Where the halves are parted. -/
theorem sym_split {A L M C : List α} {a m b mid s : Nat} (tr : ∀ a b c, R a b → R b c → R a c) (ha : A.length = a) (hm : a + L.length = m) (hb : m + M.length = b) (hL : L.Pairwise R) (hM : M.Pairwise R) (hX : Cross lt R L M)
    (hs1 : a ≤ s) (hs2 : s ≤ m) (hs3 : s ≤ mid) (hs4 : mid + m ≤ s + b)
    (h1 : s = a ∨ mid + m - s = b ∨ ∀ u v, (A ++ (L ++ (M ++ C)))[mid + m - s]? = some u → (A ++ (L ++ (M ++ C)))[s - 1]? = some v → lt u v = false)
    (h2 : s = m ∨ s = mid ∨ ∀ u v, (A ++ (L ++ (M ++ C)))[mid + m - 1 - s]? = some u → (A ++ (L ++ (M ++ C)))[s]? = some v → lt u v = true) :
    ∀ y ∈ L.take (s - a) ++ M.take (mid - s), ∀ z ∈ L.drop (s - a) ++ M.drop (mid - s), R y z := by
  refine cross_idx tr hL hM (by omega) (by omega) ?_ ?_
  · intro y z hp hy hz
    have hzl := (List.getElem?_eq_some_iff.1 hz).1
    rcases h1 with h | h | h
    · omega
    · omega
    · refine (hX y (List.mem_of_getElem? hy) z (List.mem_of_getElem? hz)).2 (h z y ?_ ?_)
      · rw [seg2 (m := m) (by omega) (by omega) (by omega), show mid + m - s - m = mid - s by omega]; exact hz
      · rw [seg1 ha (by omega) (by omega), show s - 1 - a = s - a - 1 by omega]; exact hy
  · intro y z hp hy hz
    have hzl := (List.getElem?_eq_some_iff.1 hz).1
    have hyl := (List.getElem?_eq_some_iff.1 hy).1
    rcases h2 with h | h | h
    · omega
    · omega
    · refine (hX z (List.mem_of_getElem? hz) y (List.mem_of_getElem? hy)).1 (h y z ?_ ?_)
      · rw [seg2 (m := m) (by omega) (by omega) (by omega), show mid + m - 1 - s - m = mid - s - 1 by omega]; exact hy
      · rw [seg1 ha (by omega) (by omega)]; exact hz
/-- One element and a sorted list behind it. -/
theorem one_left {l : α} {M : List α} {i : Nat} (tr : ∀ a b c, R a b → R b c → R a c) (hM : M.Pairwise R) (hX : Cross lt R [l] M) (hi : i ≤ M.length) (h1 : ∀ u, 0 < i → M[i - 1]? = some u → lt u l = true) (h2 : ∀ u, M[i]? = some u → lt u l = false) :
    Mg R ([l] ++ M) (M.take i ++ l :: M.drop i) := by
  have c1 := cross_idx (L := [l]) (M := M) (i := 1) (j := i) tr (by simp) hM (by simp) hi (fun y z _ hy hz => by
    simp at hy; subst hy
    exact (hX l (by simp) z (List.mem_of_getElem? hz)).2 (h2 z hz)) (fun y z _ _ hz => by simp at hz)
  have c2 := cross_idx (L := [l]) (M := M) (i := 0) (j := i) tr (by simp) hM (by simp) hi (fun y z h _ _ => by omega) (fun y z hp hy hz => by
    simp at hz; subst hz
    exact (hX l (by simp) y (List.mem_of_getElem? hy)).1 (h1 y hp hy))
  have h := mg_one_left (l := l) (M1 := M.take i) (M2 := M.drop i) (R := R) (by rw [List.take_append_drop]; exact hM) (fun y hy => c2 y (by simp [hy]) l (by simp)) (fun y hy => c1 l (by simp) y (by simp [hy]))
  rw [List.take_append_drop] at h
  exact h
/-- A sorted list and one element behind it. -/
theorem one_right {r : α} {L : List α} {i : Nat} (tr : ∀ a b c, R a b → R b c → R a c) (hL : L.Pairwise R) (hX : Cross lt R L [r]) (hi : i ≤ L.length) (h1 : ∀ u, 0 < i → L[i - 1]? = some u → lt r u = false) (h2 : ∀ u, L[i]? = some u → lt r u = true) :
    Mg R (L ++ [r]) (L.take i ++ r :: L.drop i) := by
  have c1 := cross_idx (L := L) (M := [r]) (i := i) (j := 0) tr hL (by simp) hi (by simp) (fun y z hp hy hz => by
    simp at hz; subst hz
    exact (hX y (List.mem_of_getElem? hy) r (by simp)).2 (h1 y hp hy)) (fun y z h _ _ => by omega)
  have c2 := cross_idx (L := L) (M := [r]) (i := i) (j := 1) tr hL (by simp) hi (by simp) (fun y z _ _ hz => by simp at hz) (fun y z _ hy hz => by
    simp at hy; subst hy
    exact (hX z (List.mem_of_getElem? hz) r (by simp)).1 (h2 z hz))
  have h := mg_one_left (l := r) (M1 := L.take i) (M2 := L.drop i) (R := R) (by rw [List.take_append_drop]; exact hL) (fun y hy => c1 y (by simp [hy]) r (by simp)) (fun y hy => c2 r (by simp) y (by simp [hy]))
  rw [List.take_append_drop] at h
  exact ⟨h.1.trans (List.perm_append_comm (l₁ := [r]) (l₂ := L)), h.2⟩
theorem mg_nil_left {M : List α} (hM : M.Pairwise R) : Mg R ([] ++ M) M := ⟨List.Perm.refl _, hM⟩
theorem mg_either {L M : List α} (hL : L.Pairwise R) (hM : M.Pairwise R) (h : L = [] ∨ M = []) : Mg R (L ++ M) (L ++ M) := by
  rcases h with rfl | rfl
  · exact mg_nil_left hM
  · exact ⟨List.Perm.refl _, by simpa using hL⟩
end Go.Proofs.Ytmmolicodlmlkaa
namespace Go.Proofs.Ytmmolicodlmlkaa
open Go.RowKit Go.Shelf
set_option linter.unusedVariables false
set_option linter.unusedSimpArgs false

/-- What a merge leaves. -/
def RetM (g B : Nat) (ex : List Value) (w : World) (A C : List Int) (R : Int → Int → Prop) (X : List Int) (e : Ending) (w' : World) : Prop := ∃ M, e = .returned (.tuple #[]) ∧ Mg R X M ∧ Dat w' g ex (A ++ (M ++ C)) ∧ Bes g B w w'
/-- Neighbours change places. -/
theorem dat_swap {w : World} {g i : Nat} {ex : List Value} {P S : List Int} {u v : Int} (h : Dat w g ex (P ++ u :: v :: S)) (hi : P.length = i) :
    (w.cell? ⟨g, i, none⟩ = some (.int .i64 u) ∧ w.frozen? ⟨g, i, none⟩ = false) ∧ (w.cell? ⟨g, i + 1, none⟩ = some (.int .i64 v) ∧ w.frozen? ⟨g, i + 1, none⟩ = false) ∧
    Dat ((w.setCell ⟨g, i, none⟩ (.int .i64 v)).setCell ⟨g, i + 1, none⟩ (.int .i64 u)) g ex (P ++ v :: u :: S) ∧ Dat ((w.setCell ⟨g, i + 1, none⟩ (.int .i64 u)).setCell ⟨g, i, none⟩ (.int .i64 v)) g ex (P ++ v :: u :: S) := by
  have e1 : (P ++ u :: v :: S)[i]? = some u := at_mid' hi
  have e2 : (P ++ u :: v :: S)[i + 1]? = some v := by
    have h3 := at_mid' (A := P ++ [u]) (b := v) (C := S) (n := i + 1) (by simp [hi])
    simpa using h3
  have hl : (P ++ u :: v :: S).length = i + 2 + S.length := by simp; omega
  refine ⟨h.at_ e1, h.at_ e2, h.two (by omega) (by omega) ?_, h.two (by omega) (by omega) ?_⟩
  · exact set_two (B := []) (C := S) hi (by simp)
  · exact set_two' (B := []) (C := S) hi (by simp)
theorem dropCons {L : List Int} {t : Nat} (h : t < L.length) : L.drop t = L[t] :: L.drop (t + 1) := List.drop_eq_getElem_cons h
theorem takeSnoc {L : List Int} {t : Nat} (h : t < L.length) : L.take (t + 1) = L.take t ++ [L[t]] := by rw [List.take_add_one, List.getElem?_eq_getElem h]; rfl
set_option maxRecDepth 100000 in
set_option maxHeartbeats 3200000 in
theorem symMerge_left (g B c N a m b f : Nat) (cb : Array Value) (ex : List Value) (A M C : List Int) (l : Int) (cf : Int → Int → Int) (R : Int → Int → Prop) (E : Int → Prop) (w0 w : World) (tr : Hid (∀ a b c, R a b → R b c → R a c)) (hc : CmpOk f cb g B w0 E cf) (hw : Bes g B w0 w) (hE : ∀ y ∈ [l] ++ M, E y)
    (ha : Hid (A.length = a)) (hm : Hid (a + 1 = m)) (hb : Hid (m + M.length = b)) (hN : b ≤ N) (hN2 : N ≤ 1048576) (hM : Hid (M.Pairwise R)) (hX : Hid (Cross (ltC cf) R [l] M)) (hD : Dat w g ex (A ++ ([l] ++ (M ++ C)))) :
    Calls Try.prog 138 #[.slice (some ⟨g, 0, none⟩) N c, .int .i64 a, .int .i64 m, .int .i64 b, .func (.func f) #[] cb] w (RetM g B ex w A C R ([l] ++ M)) := by
  have HC := hid hc
  have eg := hc.enters
  have W0 := hid hw
  have HE := hid hE
  have D0 := hid hD
  have hma : m = a + 1 := hm.out.symm
  have hmb : m + M.length ≤ b ∧ b ≤ m + M.length := by have := hb.out; omega
  have v0 : IntKind.i64.wrap ((m : Int) - (a : Int)) = 1 := by rw [IntKind.wrap_i64]; omega
  have ham : a ≤ m := by omega
  clear hc hw hE hD hma
  go_enter Try.func138, Try.ntmps138
  go_wp2
  clear v0
  go_loopw [10, 11] (fun ti tj wr => ∃ i j : Nat, ti = .int .i64 i ∧ tj = .int .i64 j ∧ m ≤ i ∧ i ≤ j ∧ j ≤ b ∧ Hid (∀ u, m < i → M[i - m - 1]? = some u → ltC cf u l = true) ∧ Hid (∀ u, M[j - m]? = some u → ltC cf u l = false) ∧ Hid (Dat wr g ex (A ++ ([l] ++ (M ++ C)))) ∧ Hid (Bes g B w wr)) (fun ti tj _ => (intOf tj).toNat - (intOf ti).toNat)
  case atStart =>
    refine ⟨m, b, rfl, rfl, Nat.le_refl _, by omega, Nat.le_refl _, ?_, ?_, D0, Bes.refl _ _ _⟩
    · intro u h; omega
    · intro u hu
      have := (List.getElem?_eq_some_iff.1 hu).1
      omega
  case round =>
    obtain ⟨i, j, rfl, rfl, hmi, hij, hjb, hI, hJ, hD, hW⟩ := hrel
    by_cases hlt : i < j
    · have hi : (i : Int) < (j : Int) := by omega
      obtain ⟨h, hh⟩ : ∃ h, h = (i + j) / 2 := ⟨_, rfl⟩
      have hh1 : m ≤ h ∧ i ≤ h ∧ h < j := by omega
      have hhd : ((i : Int) + (j : Int)) / 2 = (h : Int) := by omega
      obtain ⟨u, hu⟩ : ∃ u, M[h - m]? = some u := ⟨_, List.getElem?_eq_getElem (by omega)⟩
      have e1 : (A ++ ([l] ++ (M ++ C)))[a]? = some l := at_mid' ha.out
      have e2 : (A ++ ([l] ++ (M ++ C)))[h]? = some u := by rw [seg2 (m := m) (by have := ha.out; have := hm.out; simp; omega) hh1.1 (by omega)]; exact hu
      have l1 := (List.getElem?_eq_some_iff.1 e1).1
      have l2 := (List.getElem?_eq_some_iff.1 e2).1
      have c1 := (hD.out.at_ e1).1
      have c2 := (hD.out.at_ e2).1
      have b1 : (h : Int) < (N : Int) := by omega
      have b2 : (a : Int) < (N : Int) := by omega
      have CC := hid (HC.out.call)
      have hEu := HE.out u (by simp [List.mem_of_getElem? hu])
      have hEl := HE.out l (by simp)
      obtain ⟨v, hv⟩ : ∃ v, v = cf u l := ⟨_, rfl⟩
      have k1 : ∀ p', (behind wr p').cell? ⟨g, a, none⟩ = some (.int .i64 l) := cell_behind c1
      have k2 : ∀ p', (behind wr p').cell? ⟨g, h, none⟩ = some (.int .i64 u) := cell_behind c2
      have CB : Hid (∀ p', Calls Try.prog f (#[.int .i64 u, .int .i64 l] ++ cb) (behind wr p') fun e w'' => e = .returned (.int .i64 v) ∧ ∃ q : BehindBy, w'' = behind wr q) := fun p' => by
        rw [hv]
        exact calls_behind (HC.out.call _ (W0.out.trans (hW.out.call (behind_below wr p') (Nat.le_trans HC.out.room W0.out.size))) u l hEu hEl)
      have hltv : ltC cf u l = decide (v < 0) := by rw [hv]; rfl
      have LV := hid hltv
      have HU := hid hu
      clear hh hu e1 e2 l1 l2 c1 c2 CC hEu hEl hv hltv
      by_cases hvz : v < 0
      · have hI2 : Hid (∀ u, m < h + 1 → M[h + 1 - m - 1]? = some u → ltC cf u l = true) := fun u' _ hu' => by
          rw [show h + 1 - m - 1 = h - m by omega, HU.out] at hu'
          injection hu' with hu'
          rw [← hu', LV.out]; exact decide_eq_true hvz
        go_wp2
        refine wp_region_quiet_below (by kernel_rfl) (by kernel_rfl) ?_
        repeat (quiet_step ((go_at_fn f; exact CB.out _)))
        refine wpQuiet_nil ?_
        intro w3 hw3
        have hbb := behind_all hw3
        have O3 := hid (hD.out.below hbb)
        have W3 := hid (hW.out.call hbb (Nat.le_trans HC.out.room W0.out.size))
        clear hbb hw3 k1 k2 hD
        go_wp2
        exact ⟨⟨h + 1, j, by go_num, rfl, by omega, by omega, hjb, hI2, hJ, O3, W3⟩, by simp [intOf]; omega⟩
      · have hJ2 : Hid (∀ u, M[h - m]? = some u → ltC cf u l = false) := fun u' hu' => by
          rw [HU.out] at hu'
          injection hu' with hu'
          rw [← hu', LV.out]; exact decide_eq_false hvz
        go_wp2
        refine wp_region_quiet_below (by kernel_rfl) (by kernel_rfl) ?_
        repeat (quiet_step ((go_at_fn f; exact CB.out _)))
        refine wpQuiet_nil ?_
        intro w3 hw3
        have hbb := behind_all hw3
        have O3 := hid (hD.out.below hbb)
        have W3 := hid (hW.out.call hbb (Nat.le_trans HC.out.room W0.out.size))
        clear hbb hw3 k1 k2 hD
        go_wp2
        exact ⟨⟨i, h, rfl, rfl, hmi, by omega, by omega, hI, hJ2, O3, W3⟩, by simp [intOf]; omega⟩
    · have hi : ¬ (i : Int) < (j : Int) := by omega
      obtain rfl : i = j := by omega
      obtain ⟨q, hq⟩ : ∃ q, q = i - m := ⟨_, rfl⟩
      have hqM : q ≤ M.length := by omega
      have hMg : Hid (Mg R ([l] ++ M) (M.take q ++ l :: M.drop q)) := by
        refine one_left (lt := ltC cf) tr.out hM.out hX.out hqM (fun u hp hu => hI.out u (by omega) ?_) (fun u hu => hJ.out u ?_)
        · rw [← hq]; exact hu
        · rw [← hq]; exact hu
      have D1 : Hid (Dat wr g ex (A ++ (M.take 0 ++ l :: (M.drop 0 ++ C)))) := by show Dat _ _ _ _; have := hD.out; simpa using this
      have hqi : a + q + 1 ≤ i ∧ i ≤ a + q + 1 := by have := hm.out; omega
      have v2 : IntKind.i64.wrap ((i : Int) - 1) = ((a + q : Nat) : Int) := by rw [IntKind.wrap_i64]; omega
      obtain ⟨z, hz⟩ : ∃ z, z = a + q := ⟨_, rfl⟩
      rw [← hz] at v2
      have hzz : z ≤ a + q ∧ a + q ≤ z ∧ z + 1 ≤ i := by omega
      clear hI hJ hD hq hz hqi
      go_wp2
      go_loopw [13] (fun t wq => ∃ k y : Nat, k ≤ q ∧ y ≤ a + k ∧ a + k ≤ y ∧ t = .int .i64 y ∧ Hid (Dat wq g ex (A ++ (M.take k ++ l :: (M.drop k ++ C)))) ∧ Hid (Bes g B w wq)) (fun t _ => z - (intOf t).toNat)
      case atStart => exact ⟨0, a, Nat.zero_le _, by omega, by omega, rfl, D1, hW⟩
      case round =>
        obtain ⟨k, y, hk, hy1, hy2, rfl, hDk, hWk⟩ := hrel
        by_cases hkq : k < q
        · have hg1 : (y : Int) < (z : Int) := by omega
          have hkM : k < M.length := by omega
          obtain ⟨u, hu⟩ : ∃ u, u = M[k] := ⟨_, rfl⟩
          have hdk : Dat wr g ex ((A ++ M.take k) ++ l :: u :: (M.drop (k + 1) ++ C)) := by
            have h := hDk.out
            rw [dropCons hkM, ← hu] at h
            simpa only [List.append_assoc, List.cons_append] using h
          have hyl : (A ++ M.take k).length = y := by have := ha.out; simp; omega
          obtain ⟨⟨c1, f1⟩, ⟨c2, f2⟩, d1, d2⟩ := dat_swap hdk hyl
          have e3 : (A ++ M.take k) ++ u :: l :: (M.drop (k + 1) ++ C) = A ++ (M.take (k + 1) ++ l :: (M.drop (k + 1) ++ C)) := by
            rw [takeSnoc hkM, ← hu]; simp only [List.append_assoc, List.cons_append, List.nil_append]
          rw [e3] at d1 d2
          obtain ⟨y1, hy1'⟩ : ∃ y1, y1 = y + 1 := ⟨_, rfl⟩
          rw [← hy1'] at c2 f2 d1 d2
          have b1 : (y : Int) < (N : Int) := by omega
          have b2 : (y1 : Int) < (N : Int) := by omega
          have b3 : y ≠ y1 := by omega
          have b4 : y1 ≠ y := by omega
          have q1 : y1 ≤ a + (k + 1) ∧ a + (k + 1) ≤ y1 ∧ y < y1 := by omega
          have DN := hid d1
          have e4 : IntKind.i64.wrap ((y : Int) + 1) = (y1 : Int) := by rw [IntKind.wrap_i64]; omega
          clear hdk hyl d1 d2 e3 hy1' hu hDk
          go_wp2
          go_big_region
          go_wp2
          exact ⟨⟨k + 1, y1, by omega, q1.1, q1.2.1, rfl, DN.out.drew1, ((hWk.out.set_ y _).set_ y1 _).drew1⟩, by simp [intOf]; omega⟩
        · have hg1 : ¬ (y : Int) < (z : Int) := by omega
          obtain rfl : k = q := by omega
          have hfin : Hid (Dat wr g ex (A ++ ((M.take k ++ l :: M.drop k) ++ C))) := by show Dat _ _ _ _; have := hDk.out; simpa using this
          clear hDk
          go_wp2
          go_end0
          exact ⟨_, rfl, hMg.out, hfin.out, hWk.out⟩
set_option maxRecDepth 100000 in
set_option maxHeartbeats 3200000 in
theorem symMerge_right (g B c N a m b f : Nat) (cb : Array Value) (ex : List Value) (A L C : List Int) (r : Int) (cf : Int → Int → Int) (R : Int → Int → Prop) (E : Int → Prop) (w0 w : World) (tr : Hid (∀ a b c, R a b → R b c → R a c)) (hc : CmpOk f cb g B w0 E cf) (hw : Bes g B w0 w) (hE : ∀ y ∈ L ++ [r], E y)
    (ha : Hid (A.length = a)) (hm : Hid (a + L.length = m)) (hb : Hid (m + 1 = b)) (h1 : L.length ≠ 1) (hN : b ≤ N) (hN2 : N ≤ 1048576) (hL : Hid (L.Pairwise R)) (hX : Hid (Cross (ltC cf) R L [r])) (hD : Dat w g ex (A ++ (L ++ ([r] ++ C)))) :
    Calls Try.prog 138 #[.slice (some ⟨g, 0, none⟩) N c, .int .i64 a, .int .i64 m, .int .i64 b, .func (.func f) #[] cb] w (RetM g B ex w A C R (L ++ [r])) := by
  have HC := hid hc
  have eg := hc.enters
  have W0 := hid hw
  have HE := hid hE
  have D0 := hid hD
  have hma : a + L.length ≤ m ∧ m ≤ a + L.length := by have := hm.out; omega
  have hmb : m + 1 ≤ b ∧ b ≤ m + 1 := by have := hb.out; omega
  obtain ⟨nl, hnl⟩ : ∃ nl, nl = L.length := ⟨_, rfl⟩
  have v0 : IntKind.i64.wrap ((m : Int) - (a : Int)) = (nl : Int) := by rw [IntKind.wrap_i64]; omega
  have v1 : IntKind.i64.wrap ((b : Int) - (m : Int)) = 1 := by rw [IntKind.wrap_i64]; omega
  have v2 : ((nl : Int) == 1) = false := beq_eq_false_iff_ne.2 (by omega)
  clear hc hw hE hD hnl h1
  go_enter Try.func138, Try.ntmps138
  go_wp2
  clear v0 v1 v2
  go_loopw [14, 15] (fun ti tj wr => ∃ i j : Nat, ti = .int .i64 i ∧ tj = .int .i64 j ∧ a ≤ i ∧ i ≤ j ∧ j ≤ m ∧ Hid (∀ u, a < i → L[i - a - 1]? = some u → ltC cf r u = false) ∧ Hid (∀ u, L[j - a]? = some u → ltC cf r u = true) ∧ Hid (Dat wr g ex (A ++ (L ++ ([r] ++ C)))) ∧ Hid (Bes g B w wr)) (fun ti tj _ => (intOf tj).toNat - (intOf ti).toNat)
  case atStart =>
    refine ⟨a, m, rfl, rfl, Nat.le_refl _, by omega, Nat.le_refl _, ?_, ?_, D0, Bes.refl _ _ _⟩
    · intro u h; omega
    · intro u hu
      have := (List.getElem?_eq_some_iff.1 hu).1
      omega
  case round =>
    obtain ⟨i, j, rfl, rfl, hai, hij, hjm, hI, hJ, hD, hW⟩ := hrel
    by_cases hlt : i < j
    · have hi : (i : Int) < (j : Int) := by omega
      obtain ⟨h, hh⟩ : ∃ h, h = (i + j) / 2 := ⟨_, rfl⟩
      have hh1 : a ≤ h ∧ i ≤ h ∧ h < j := by omega
      have hhd : ((i : Int) + (j : Int)) / 2 = (h : Int) := by omega
      obtain ⟨u, hu⟩ : ∃ u, L[h - a]? = some u := ⟨_, List.getElem?_eq_getElem (by omega)⟩
      have e1 : (A ++ (L ++ ([r] ++ C)))[m]? = some r := by rw [seg2 (M := [r]) (m := m) (by have := ha.out; omega) (Nat.le_refl _) (by simp), Nat.sub_self]; rfl
      have e2 : (A ++ (L ++ ([r] ++ C)))[h]? = some u := by rw [seg1 ha.out hh1.1 (by omega)]; exact hu
      have l1 := (List.getElem?_eq_some_iff.1 e1).1
      have l2 := (List.getElem?_eq_some_iff.1 e2).1
      have c1 := (hD.out.at_ e1).1
      have c2 := (hD.out.at_ e2).1
      have b1 : (h : Int) < (N : Int) := by omega
      have b2 : (m : Int) < (N : Int) := by omega
      have hEu := HE.out u (by simp [List.mem_of_getElem? hu])
      have hEl := HE.out r (by simp)
      obtain ⟨v, hv⟩ : ∃ v, v = cf r u := ⟨_, rfl⟩
      have k1 : ∀ p', (behind wr p').cell? ⟨g, m, none⟩ = some (.int .i64 r) := cell_behind c1
      have k2 : ∀ p', (behind wr p').cell? ⟨g, h, none⟩ = some (.int .i64 u) := cell_behind c2
      have CB : Hid (∀ p', Calls Try.prog f (#[.int .i64 r, .int .i64 u] ++ cb) (behind wr p') fun e w'' => e = .returned (.int .i64 v) ∧ ∃ q : BehindBy, w'' = behind wr q) := fun p' => by
        rw [hv]
        exact calls_behind (HC.out.call _ (W0.out.trans (hW.out.call (behind_below wr p') (Nat.le_trans HC.out.room W0.out.size))) r u hEl hEu)
      have hltv : ltC cf r u = decide (v < 0) := by rw [hv]; rfl
      have LV := hid hltv
      have HU := hid hu
      clear hh hu e1 e2 l1 l2 c1 c2 hEu hEl hv hltv
      by_cases hvz : v < 0
      · have hvd : decide (v < 0) = true := decide_eq_true hvz
        have hJ2 : Hid (∀ u, L[h - a]? = some u → ltC cf r u = true) := fun u' hu' => by
          rw [HU.out] at hu'
          injection hu' with hu'
          rw [← hu', LV.out]; exact decide_eq_true hvz
        go_wp2
        refine wp_region_quiet_below (by kernel_rfl) (by kernel_rfl) ?_
        repeat (quiet_step ((go_at_fn f; exact CB.out _)))
        refine wpQuiet_nil ?_
        intro w3 hw3
        have hbb := behind_all hw3
        have O3 := hid (hD.out.below hbb)
        have W3 := hid (hW.out.call hbb (Nat.le_trans HC.out.room W0.out.size))
        clear hbb hw3 k1 k2 hD
        go_wp2
        exact ⟨⟨i, h, rfl, rfl, hai, by omega, by omega, hI, hJ2, O3, W3⟩, by simp [intOf]; omega⟩
      · have hvd : decide (v < 0) = false := decide_eq_false hvz
        have hI2 : Hid (∀ u, a < h + 1 → L[h + 1 - a - 1]? = some u → ltC cf r u = false) := fun u' _ hu' => by
          rw [show h + 1 - a - 1 = h - a by omega, HU.out] at hu'
          injection hu' with hu'
          rw [← hu', LV.out]; exact decide_eq_false hvz
        go_wp2
        refine wp_region_quiet_below (by kernel_rfl) (by kernel_rfl) ?_
        repeat (quiet_step ((go_at_fn f; exact CB.out _)))
        refine wpQuiet_nil ?_
        intro w3 hw3
        have hbb := behind_all hw3
        have O3 := hid (hD.out.below hbb)
        have W3 := hid (hW.out.call hbb (Nat.le_trans HC.out.room W0.out.size))
        clear hbb hw3 k1 k2 hD
        go_wp2
        exact ⟨⟨h + 1, j, by go_num, rfl, by omega, by omega, hjm, hI2, hJ, O3, W3⟩, by simp [intOf]; omega⟩
    · have hi : ¬ (i : Int) < (j : Int) := by omega
      obtain rfl : i = j := by omega
      obtain ⟨q, hq⟩ : ∃ q, q = i - a := ⟨_, rfl⟩
      have hqL : q ≤ L.length := by omega
      have hMg : Hid (Mg R (L ++ [r]) (L.take q ++ r :: L.drop q)) := by
        refine one_right (lt := ltC cf) tr.out hL.out hX.out hqL (fun u hp hu => hI.out u (by omega) ?_) (fun u hu => hJ.out u ?_)
        · rw [← hq]; exact hu
        · rw [← hq]; exact hu
      have D1 : Hid (Dat wr g ex (A ++ (L.take L.length ++ r :: (L.drop L.length ++ C)))) := by show Dat _ _ _ _; have := hD.out; simpa using this
      have hqi : a + q ≤ i ∧ i ≤ a + q := by omega
      clear hI hJ hD hq
      go_wp2
      go_loopw [17] (fun t wq => ∃ k y : Nat, q ≤ k ∧ k ≤ L.length ∧ y ≤ a + k ∧ a + k ≤ y ∧ t = .int .i64 y ∧ Hid (Dat wq g ex (A ++ (L.take k ++ r :: (L.drop k ++ C)))) ∧ Hid (Bes g B w wq)) (fun t _ => (intOf t).toNat)
      case atStart => exact ⟨L.length, m, hqL, Nat.le_refl _, by omega, by omega, rfl, D1, hW⟩
      case round =>
        obtain ⟨k, y, hk, hkL, hy1, hy2, rfl, hDk, hWk⟩ := hrel
        by_cases hkq : q < k
        · have hg1 : (i : Int) < (y : Int) := by omega
          obtain ⟨k0, rfl⟩ : ∃ k0, k = k0 + 1 := ⟨k - 1, by omega⟩
          have hkM : k0 < L.length := by omega
          obtain ⟨u, hu⟩ : ∃ u, u = L[k0] := ⟨_, rfl⟩
          have hdk : Dat wr g ex ((A ++ L.take k0) ++ u :: r :: (L.drop (k0 + 1) ++ C)) := by
            have h := hDk.out
            rw [takeSnoc hkM, ← hu] at h
            simpa only [List.append_assoc, List.cons_append, List.nil_append] using h
          obtain ⟨y0, hy0⟩ : ∃ y0, y0 = y - 1 := ⟨_, rfl⟩
          have hyl : (A ++ L.take k0).length = y0 := by have := ha.out; simp; omega
          obtain ⟨⟨c1, f1⟩, ⟨c2, f2⟩, d1, d2⟩ := dat_swap hdk hyl
          have e3 : (A ++ L.take k0) ++ r :: u :: (L.drop (k0 + 1) ++ C) = A ++ (L.take k0 ++ r :: (L.drop k0 ++ C)) := by
            rw [dropCons hkM, ← hu]; simp only [List.append_assoc, List.cons_append, List.nil_append]
          rw [e3] at d1 d2
          have hy01 : y0 + 1 = y := by omega
          rw [hy01] at c2 f2 d1 d2
          have b1 : (y : Int) < (N : Int) := by omega
          have b2 : (y0 : Int) < (N : Int) := by omega
          have b3 : y ≠ y0 := by omega
          have b4 : y0 ≠ y := by omega
          have q1 : y0 ≤ a + k0 ∧ a + k0 ≤ y0 ∧ y0 < y := by omega
          have DN := hid d2
          have e4 : IntKind.i64.wrap ((y : Int) - 1) = (y0 : Int) := by rw [IntKind.wrap_i64]; omega
          clear hdk hyl d1 d2 e3 hy0 hy01 hu hDk
          go_wp2
          go_big_region
          go_wp2
          exact ⟨⟨k0, y0, by omega, by omega, q1.1, q1.2.1, rfl, DN.out.drew1, ((hWk.out.set_ y _).set_ y0 _).drew1⟩, by simp [intOf]; omega⟩
        · have hg1 : ¬ (i : Int) < (y : Int) := by omega
          obtain rfl : k = q := by omega
          have hfin : Hid (Dat wr g ex (A ++ ((L.take k ++ r :: L.drop k) ++ C))) := by show Dat _ _ _ _; have := hDk.out; simpa using this
          clear hDk
          go_wp2
          go_end0
          exact ⟨_, rfl, hMg.out, hfin.out, hWk.out⟩
end Go.Proofs.Ytmmolicodlmlkaa
