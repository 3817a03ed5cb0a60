/-
  Layers, put: plain.
-/
import Derived.Test.YtmafkkpdcajfoaaLayersP
import Derived.Test.YtmafkkpdcajfoaaPutCells
namespace Go.Proofs.Ytmafkkpdcajfoaa
open Go.RowKit
set_option linter.unusedVariables false

/-- One layer, put; nothing where a count leaves its bounds. -/
def putQ (q : Int × Int × Int × List Int) (key by_ : Int) : Option (Int × Int × Int × List Int) :=
  if vCells q.1 q.2.1 q.2.2.1 (addAt by_ q.2.2.2 (cellsL q.1.toNat q.2.2.1.toNat key.toNat q.2.1.toNat)) = true then some (q.1, q.2.1, q.2.2.1, addAt by_ q.2.2.2 (cellsL q.1.toNat q.2.2.1.toNat key.toNat q.2.1.toNat)) else none
/-- The first n layers, put. -/
def putN (P : List (Int × Int × Int × List Int)) (key by_ : Int) : Nat → Option (List (Int × Int × Int × List Int))
  | 0 => some []
  | n + 1 => match putN P key by_ n, P[n]? with
    | some l, some q => (match putQ q (key / 2 ^ (28 - 4 * n)) by_ with | some q' => some (l ++ [q']) | none => none)
    | _, _ => none
theorem putN_yes {P : List (Int × Int × Int × List Int)} {key by_ : Int} {n : Nat} {l : List (Int × Int × Int × List Int)} {q q' : Int × Int × Int × List Int} (h : putN P key by_ n = some l) (hq : P[n]? = some q) (hp : putQ q (key / 2 ^ (28 - 4 * n)) by_ = some q') : putN P key by_ (n + 1) = some (l ++ [q']) := by
  simp only [putN, h, hq, hp]
theorem putN_none {P : List (Int × Int × Int × List Int)} {key by_ : Int} {n m : Nat} (h : putN P key by_ n = none) (hm : n ≤ m) : putN P key by_ m = none := by
  induction m with
  | zero => have : n = 0 := by omega
            subst this; exact h
  | succ m ih =>
    rcases Nat.lt_or_ge m n with h1 | h1
    · have : n = m + 1 := by omega
      subst this; exact h
    · simp only [putN, ih h1]
theorem putN_no {P : List (Int × Int × Int × List Int)} {key by_ : Int} {n m : Nat} {q : Int × Int × Int × List Int} (hq : P[n]? = some q) (hp : putQ q (key / 2 ^ (28 - 4 * n)) by_ = none) (hm : n < m) : putN P key by_ m = none := by
  refine putN_none (n := n + 1) ?_ hm
  cases h : putN P key by_ n with
  | none => simp only [putN, h]
  | some l => simp only [putN, h, hq, hp]
/-- What PutLayers returns. -/
def pPutLayers (P : List (Int × Int × Int × List Int)) (key by_ : Int) : List (Int × Int × Int × List Int) × Bool :=
  if (vLayP P && inB key 0 4294967295 && inB by_ 0 1000000) = true then (match putN P key by_ 8 with | some l => (l, true) | none => ([], false)) else ([], false)
/-- One layer, as PutCells does it. -/
theorem putCells_step {q : Int × Int × Int × List Int} {k by_ : Int} (hv : vCells q.1 q.2.1 q.2.2.1 q.2.2.2 = true) (hk : inB k 0 4294967295 = true) (hb : inB by_ (-1000000) 1000000 = true) :
    pPutCells q.1 q.2.1 q.2.2.1 q.2.2.2 k by_ = match putQ q k by_ with | some q' => (q', true) | none => ((0, 0, 0, []), false) := by
  unfold pPutCells putQ giveP
  rw [hv, hk, hb]
  simp only [Bool.and_self, if_true]
  split <;> simp_all
/-- A prefix of a key is a key. -/
theorem key_shr {key : Int} {n : Nat} (h : inB key 0 4294967295 = true) : inB (key / 2 ^ n) 0 4294967295 = true := by
  obtain ⟨h0, h1⟩ := inB_iff.1 h
  have hp : (0 : Int) < 2 ^ n := Int.pow_pos (by omega)
  refine inB_iff.2 ⟨Int.ediv_nonneg h0 (Int.le_of_lt hp), ?_⟩
  exact Int.le_trans (Int.ediv_le_self _ h0) h1
end Go.Proofs.Ytmafkkpdcajfoaa
