/-
  The heavy keys of layers: plain, and one literal slice of the call's own.
-/
import Derived.Test.YtmafkkpdcajfoaaLayersP
import Derived.Test.YtmafkkpdcajfoaaApp
namespace Go.Proofs.Ytmafkkpdcajfoaa
open Go.RowKit
set_option linter.unusedVariables false

/-- The least cell of a key in a layer. -/
def atP (q : Int × Int × Int × List Int) (key : Int) : Int := minAtM 1000000000000 q.2.2.2 (cellsL q.1.toNat q.2.2.1.toNat key.toNat q.2.1.toNat)
/-- The first n keys with prefix p that are heavy. -/
def partH (q : Int × Int × Int × List Int) (least p : Int) (n : Nat) : List Int := ((List.range n).map fun (d : Nat) => 16 * p + (d : Int)).filter fun key => decide (least ≤ atP q key)
theorem partH_yes {q : Int × Int × Int × List Int} {least p : Int} {n : Nat} (h : least ≤ atP q (16 * p + (n : Int))) : partH q least p (n + 1) = partH q least p n ++ [16 * p + (n : Int)] := by
  simp [partH, List.range_succ, List.filter_append, h]
theorem partH_no {q : Int × Int × Int × List Int} {least p : Int} {n : Nat} (h : ¬ least ≤ atP q (16 * p + (n : Int))) : partH q least p (n + 1) = partH q least p n := by
  simp [partH, List.range_succ, List.filter_append, h]
theorem partH_length (q : Int × Int × Int × List Int) (least p : Int) (n : Nat) : (partH q least p n).length ≤ n := by
  unfold partH
  have := List.length_filter_le (fun key => decide (least ≤ atP q key)) ((List.range n).map fun (d : Nat) => 16 * p + (d : Int))
  simpa using this
theorem partH_mem {q : Int × Int × Int × List Int} {least p : Int} {n : Nat} {z : Int} (h : z ∈ partH q least p n) : 16 * p ≤ z ∧ z < 16 * p + (n : Int) := by
  simp only [partH, List.mem_filter, List.mem_map, List.mem_range] at h
  obtain ⟨⟨d, hd, rfl⟩, _⟩ := h
  omega
/-- One layer on. -/
def stepH (q : Int × Int × Int × List Int) (least : Int) (now : List Int) : List Int := now.flatMap fun p => partH q least p 16
theorem stepH_snoc {q : Int × Int × Int × List Int} {least : Int} {now : List Int} {i : Nat} {p : Int} (h : now[i]? = some p) : stepH q least (now.take (i + 1)) = stepH q least (now.take i) ++ partH q least p 16 := by
  rw [List.take_add_one, h]; simp [stepH]
theorem stepH_length (q : Int × Int × Int × List Int) (least : Int) (now : List Int) : (stepH q least now).length ≤ 16 * now.length := by
  induction now with
  | nil => simp [stepH]
  | cons p now ih =>
    have h1 := partH_length q least p 16
    simp only [stepH, List.flatMap_cons, List.length_append, List.length_cons] at ih ⊢
    omega
theorem stepH_mem {q : Int × Int × Int × List Int} {least M : Int} {now : List Int} (h : ∀ p ∈ now, 0 ≤ p ∧ p < M) : ∀ z ∈ stepH q least now, 0 ≤ z ∧ z < 16 * M := by
  intro z hz
  simp only [stepH, List.mem_flatMap] at hz
  obtain ⟨p, hp, hz⟩ := hz
  have h1 := h p hp
  have h2 := partH_mem hz
  omega
/-- All layers, one behind the other; none where there are too many. -/
def heavyP (least : Int) : List (Int × Int × Int × List Int) → List Int → Option (List Int)
  | [], now => some now
  | q :: Q, now => if (stepH q least now).length > 64 then none else heavyP least Q (stepH q least now)
theorem heavyP_step {least : Int} {P : List (Int × Int × Int × List Int)} {j : Nat} {q : Int × Int × Int × List Int} {now : List Int} (h : P[j]? = some q) :
    heavyP least (P.drop j) now = if (stepH q least now).length > 64 then none else heavyP least (P.drop (j + 1)) (stepH q least now) := by
  obtain ⟨hj, rfl⟩ := List.getElem?_eq_some_iff.1 h
  rw [List.drop_eq_getElem_cons hj]; rfl
/-- What HeavyLayers returns. -/
def pHeavyLayers (P : List (Int × Int × Int × List Int)) (least : Int) : List Int × Bool :=
  if (vLayP P && decide (1 ≤ least)) = true then (match heavyP least P [0] with | some l => (l, true) | none => ([], false)) else ([], false)
def RetHL (w : World) (p : List Int × Bool) (en : Ending) (w' : World) : Prop :=
  ∃ A c, en = .returned (.tuple #[.slice A p.1.length c, .bool p.2]) ∧ OwnS (Value.int .i64) w' w.heap.size 2 A p.1 ∧ p.1.length ≤ 1048576 ∧ Below w.heap.size w w'
theorem retHL_no {w : World} : ∀ (en : Ending) (w' : World), (en = .returned (.tuple #[.slice none 0 0, .bool false]) ∧ Below w.heap.size w w') → RetHL w ([], false) en w' := by
  rintro e w' ⟨rfl, hb⟩
  exact ⟨none, 0, rfl, OwnS.nil, by simp, hb⟩
/-- A literal of one element. -/
theorem OwnV.one (w : World) (y : Int) {B : Nat} (hB : B ≤ w.heap.size) : OwnV (w.alloc (.cells #[.int .i64 y] 2)) B (.slice (some ⟨w.heap.size, 0, none⟩) 1 1) [y] :=
  ⟨rfl, .inr ⟨w.heap.size, 1, #[.int .i64 y], rfl, hB, heap_alloc_new w _, by simp, by simp [maxLen], rfl, rfl⟩⟩
end Go.Proofs.Ytmafkkpdcajfoaa
