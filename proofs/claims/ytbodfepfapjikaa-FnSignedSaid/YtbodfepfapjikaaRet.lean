/-
  What a function hands back that builds a slice of its own.
-/
import Derived.Test.YtbodfepfapjikaaMem
import Derived.Test.YtbodfepfapjikaaProg
namespace Go.Proofs.Ytbodfepfapjikaa
open Go.RowKit

theorem Try.infoI : (Try.prog.info? 2).map (fun i => (i.zero, i.size, i.bytes)) = some (some (.int .i64 0), 1, 8) := by kernel_rfl

theorem ret_bool2 {a b a' b' : Bool} (h : a = a') (h' : b = b') : Ending.returned (.tuple #[.bool a, .bool b]) = .returned (.tuple #[.bool a', .bool b']) := by rw [h, h']
theorem ret_int2 {k : IntKind} {a a' : Int} {b b' : Bool} (h : a = a') (h' : b = b') : Ending.returned (.tuple #[.int k a, .bool b]) = .returned (.tuple #[.int k a', .bool b']) := by rw [h, h']

/-- A callee that leaves the world alone, inside a region that only draws, where draws went before. -/
theorem quiet_more {P : Program} {f : FuncId} {args : Array Value} {w : World} {a n : Nat} {v : Value}
    (h : Calls P f args (w.drewN (a + n)) fun e w' => e = .returned v ∧ w.drewN (a + n) = w') : Calls P f args (w.drewN (a + n)) fun e w'' => e = .returned v ∧ ∃ m, w'' = w.drewN (a + m) :=
  h.mono fun _ _ ⟨he, hm⟩ => ⟨he, n, hm.symm⟩

/-- It hands back a slice of its own that holds xs; nothing that was there has changed. -/
def RetL {α : Type} (f : α → Value) (t : TypeId) (w : World) (xs : List α) (e : Ending) (w' : World) : Prop :=
  ∃ A c, e = .returned (.slice A xs.length c) ∧ OwnS f w' w.heap.size t A xs ∧ Below w.heap.size w w'

/-- A slice built by append, as a slice of the call's own. -/
theorem ownS_of_row {α : Type} {f : α → Value} {w : World} {B : Nat} {e : TypeId} {v : Value} {n : Nat} {xs : List α} (h : w.ownsRow B e 1 v n (xs.map f)) (hl : xs.length = n) :
    ∃ A c, v = .slice A xs.length c ∧ OwnS f w B e A xs := by
  subst hl
  obtain ⟨hn, h | ⟨g, cap, cur, hv, hB, hg, hc, hm, hs, ht⟩⟩ := h
  · obtain ⟨rfl, h0⟩ := h
    obtain rfl : xs = [] := List.eq_nil_of_length_eq_zero h0
    exact ⟨none, 0, rfl, OwnS.nil⟩
  · refine ⟨some ⟨g, 0, none⟩, cap, hv, fun _ => ⟨g, cur.toList.drop xs.length, rfl, hB, ?_⟩⟩
    unfold Blk
    rw [hg]
    have : xs.map f ++ cur.toList.drop xs.length = cur.toList := by
      rw [← ht, Nat.mul_one, List.take_append_drop]
    rw [this]


end Go.Proofs.Ytbodfepfapjikaa
