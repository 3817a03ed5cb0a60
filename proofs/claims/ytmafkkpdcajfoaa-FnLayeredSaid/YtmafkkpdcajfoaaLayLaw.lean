/-
  The laws' helpers over a slice of cells: compare, mark, look for the marks: by contracts.
-/
import Derived.Test.YtmafkkpdcajfoaaLay
import Derived.Test.YtmafkkpdcajfoaaStCells
namespace Go.Proofs.Ytmafkkpdcajfoaa
open Go.RowKit
set_option linter.unusedVariables false
set_option linter.unusedSimpArgs false

/-- The room that the marks of the first n take. -/
def offL (L : List Lay) : Nat → Int
  | 0 => 0
  | n + 1 => offL L n + 3 + (match L[n]? with | some e => (e.x.length : Int) | none => 0)
theorem offL_succ {L : List Lay} {n : Nat} {e : Lay} (h : L[n]? = some e) : offL L (n + 1) = offL L n + 3 + (e.x.length : Int) := by simp [offL, h]
theorem offL_ge (L : List Lay) (n : Nat) : 0 ≤ offL L n := by
  induction n with
  | zero => exact Int.le_refl _
  | succ n ih => simp only [offL]; cases L[n]? <;> simp <;> omega
theorem offL_mono (L : List Lay) {i j : Nat} (h : i < j) : offL L (i + 1) ≤ offL L j := by
  induction j with
  | zero => omega
  | succ j ih =>
    rcases Nat.lt_or_ge i j with h1 | h1
    · have := ih h1
      have h2 : offL L j ≤ offL L (j + 1) := by simp only [offL]; cases L[j]? <;> simp <;> omega
      omega
    · have : i = j := by omega
      subst this
      exact Int.le_refl _
/-- An element with marks from q on. -/
def Lay.mark (e : Lay) (q : Int) : Lay := ⟨q, q + 1, q + 1 + 1, e.A, e.c, marks markI (q + 1 + 1 + 1) e.x.length⟩
/-- The slice while it is being marked, and behind that. -/
def markT (q : Int) (L : List Lay) (n : Nat) : List Lay := (List.range L.length).zipWith (fun i e => if i < n then e.mark (q + offL L i) else e) L
theorem markT_length (q : Int) (L : List Lay) (n : Nat) : (markT q L n).length = L.length := by simp [markT]
theorem markT_at {q : Int} {L : List Lay} {n i : Nat} {e : Lay} (h : L[i]? = some e) : (markT q L n)[i]? = some (if i < n then e.mark (q + offL L i) else e) := by
  have hi : i < L.length := (List.getElem?_eq_some_iff.1 h).1
  simp [markT, List.getElem?_zipWith, List.getElem?_range hi, h]
theorem markT_zero (q : Int) (L : List Lay) : markT q L 0 = L := by
  apply List.ext_getElem?
  intro i
  cases h : L[i]? with
  | none => rw [List.getElem?_eq_none (by rw [markT_length]; exact List.getElem?_eq_none_iff.1 h)]
  | some e => rw [markT_at h]; simp
theorem markT_step {q : Int} {L : List Lay} {n : Nat} {e : Lay} (h : L[n]? = some e) : (markT q L n).set n (e.mark (q + offL L n)) = markT q L (n + 1) := by
  apply List.ext_getElem?
  intro i
  rw [List.getElem?_set, markT_length]
  have hn : n < L.length := (List.getElem?_eq_some_iff.1 h).1
  by_cases hi : n = i
  · subst hi
    rw [if_pos rfl, if_pos hn, markT_at h, if_pos (by omega)]
  · rw [if_neg hi]
    cases h2 : L[i]? with
    | none => rw [List.getElem?_eq_none (by rw [markT_length]; exact List.getElem?_eq_none_iff.1 h2), List.getElem?_eq_none (by rw [markT_length]; exact List.getElem?_eq_none_iff.1 h2)]
    | some f =>
      rw [markT_at h2, markT_at h2]
      by_cases h3 : i < n
      · rw [if_pos h3, if_pos (by omega)]
      · rw [if_neg h3, if_neg (by omega)]
theorem cell_below' {w w' : World} {a : Addr} {v : Value} (h : w.cell? a = some v) (hb : Below w.heap.size w w') : w'.cell? a = some v := (hb.cell (World.block_lt_of_cell? w a h)).trans h
end Go.Proofs.Ytmafkkpdcajfoaa
