/-
  A region that draws its order, whose own operations read and whose callees may make memory behind all that there is: walked once, in the order of the text. No program in sight.
-/
import Derived.Test.YtbodfepfapjikaaMem
import Derived.Deep.QuietTactic
import Derived.Shelf.Abstract
namespace Go.Proofs.Ytbodfepfapjikaa
open Go.RowKit
set_option linter.unusedVariables false

/-- How far a world lies behind another one: what has been drawn, what has been made. -/
structure BehindBy where
  n : Nat
  os : Array Obj
instance : Inhabited BehindBy := ⟨⟨0, #[]⟩⟩
def behind (w : World) (p : BehindBy) : World := { w with heap := w.heap ++ p.os, drawn := p.n }
section
variable {w w' : World} {p : BehindBy}
theorem behind_below (w : World) (p : BehindBy) : Below w.heap.size w (behind w p) :=
  ⟨rfl, rfl, rfl, by simp [behind], fun k hk => by simp [behind, Array.getElem?_append, hk]⟩
theorem below_behind (h : Below w.heap.size w w') : ∃ p : BehindBy, w' = behind w p := by
  refine ⟨⟨w'.drawn, w'.heap.extract w.heap.size w'.heap.size⟩, ?_⟩
  have e : w'.heap = w.heap ++ w'.heap.extract w.heap.size w'.heap.size := by
    apply Array.ext_getElem?
    intro i
    rw [Array.getElem?_append]
    by_cases hi : i < w.heap.size
    · rw [if_pos hi, h.block i hi]
    · rw [if_neg hi, Array.getElem?_extract]
      by_cases h2 : i < w'.heap.size
      · rw [if_pos (by omega)]
        congr 1
        omega
      · rw [if_neg (by omega), Array.getElem?_eq_none (by omega)]
  have h1 := h.os
  have h2 := h.tape
  have h3 := h.output
  cases w'
  simp only at h1 h2 h3 e
  subst h1 h2 h3
  simp only [behind]
  congr 1
theorem cell_behind {a : Addr} {v : Value} (h : w.cell? a = some v) (p : BehindBy) : (behind w p).cell? a = some v :=
  ((behind_below w p).cell (World.block_lt_of_cell? w a h)).trans h
theorem behind_all (h : ∃ p : BehindBy, w' = behind w p) : Below w.heap.size w w' := by
  obtain ⟨p, rfl⟩ := h
  exact behind_below w p
theorem wp_region_quiet_below {P : Program} {id : Nat} {Q : Exit → Act → World → Prop} {a : Act} {w : World} {l : List Oper} (hm : P.follows .mixedOrders = true) (hB : Region.lexB .any l.toArray = true)
    (h : wpQuiet P l.toArray (fun w' => ∃ p : BehindBy, w' = behind w p) (fun a' => ∀ w', (∃ p : BehindBy, w' = behind w p) → Q .normal a' w') l a) : (Code.region id l.toArray true).wp P Q a w :=
  wp_region_quiet (C := fun w' => ∃ p : BehindBy, w' = behind w p) hm hB (below_behind (⟨rfl, rfl, rfl, Nat.le_refl _, fun _ _ => rfl⟩)) (by simpa using h)
/-- A callee's contract, met behind w. -/
theorem calls_behind {P : Program} {f : FuncId} {args : Array Value} {v : Value} (h : Calls P f args (behind w p) fun e w' => e = .returned v ∧ Below (behind w p).heap.size (behind w p) w') :
    Calls P f args (behind w p) fun e w'' => e = .returned v ∧ ∃ q : BehindBy, w'' = behind w q :=
  h.mono fun _ _ ⟨he, hb⟩ => ⟨he, below_behind ((behind_below w p).trans (hb.mono (behind_below w p).size))⟩
end
end Go.Proofs.Ytbodfepfapjikaa
