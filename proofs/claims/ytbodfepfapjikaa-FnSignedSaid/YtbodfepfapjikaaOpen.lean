/-
  From data to lists: what an argument of a law reads as. No program in sight.
-/
import Derived.Test.YtbodfepfapjikaaMem
import Derived.ProofKit
import Derived.OpenShut
import Derived.Deep.Grids
import Derived.Lib.SmallJoins
namespace Go.Proofs.Ytbodfepfapjikaa
open Go.ChangeShapes Go.WideShapes Go.ChangeAt Go.RowKit Go.Deep

theorem below_of_draw {w w' : World} {n : Nat} (h : w' = w.drewN n) : Below w.heap.size w w' := by rw [h]; exact below_drewN (Below.refl _ _) n

/-- The number fits an int64. -/
def W64 (a : Int) : Prop := (Lit.int .i64 a).wf = true
theorem W64.bounds {a : Int} (h : W64 a) : -9223372036854775808 ≤ a ∧ a ≤ 9223372036854775807 := by
  simpa [W64, Lit.wf, IntKind.min, IntKind.max, IntKind.signed, IntKind.bits] using h

section
variable {H : Type} {enc : TypeId × Value → H} {P : Program} {w : World}

theorem open_intL {t e : TypeId} {fuel : Nat} {v : Value} {x : DataW H × List MemPlace} (ht : P.underlying t = some (.slice e)) (he : P.underlying e = some (.int .i64)) (hc : P.cellsOf e = 1)
    (h : DataW.trod enc P w 0 (fun _ => true) true fuel t [v] = some x) :
    ∃ A c xs n, v = .slice A n c ∧ Hid (xs.length = n) ∧ n ≤ 9223372036854775807 ∧ RdL (Value.int .i64) w A xs ∧ ∀ x ∈ xs, W64 x := by
  rcases open_ints ht he hc h with ⟨hcs, _⟩ | ⟨a, len, cap, zs, hcs, _, hl, hm, hz, _, hcell, hwz⟩
  · simp at hcs
    subst hcs
    exact ⟨none, 0, [], 0, rfl, rfl, by omega, RdL.nil, by simp⟩
  · simp at hcs hz
    subst hcs
    obtain ⟨b, o, spot⟩ := a
    refine ⟨some ⟨b, o, spot⟩, cap, zs.take len, len, rfl, ?_, ?_, ?_, fun y hy => hwz y (List.mem_of_mem_take hy)⟩
    · show (zs.take len).length = len
      simp; omega
    · simp only [maxLen] at hm; omega
    · intro j hj
      have hj' : j < len ∧ j < zs.length := by
        have h0 : j < (zs.take len).length := hj
        simp at h0; omega
      have hs : spot = none := by simpa [Addr.add] using World.cell?_spot (hcell 0 (by omega))
      subst hs
      refine ⟨b, o, rfl, ?_⟩
      have := hcell j hj'.2
      rw [show (⟨b, o, none⟩ : Addr).add j = ⟨b, o + j, none⟩ from by unfold Addr.add; split <;> simp_all] at this
      rw [this]
      simp [hj'.2]

theorem open_boolL {t e : TypeId} {fuel : Nat} {v : Value} {x : DataW H × List MemPlace} (ht : P.underlying t = some (.slice e)) (he : P.underlying e = some .bool) (hc : P.cellsOf e = 1)
    (h : DataW.trod enc P w 0 (fun _ => true) true fuel t [v] = some x) :
    ∃ A c xs n, v = .slice A n c ∧ Hid (xs.length = n) ∧ n ≤ 9223372036854775807 ∧ RdL Value.bool w A xs := by
  rcases open_bools ht he hc h with ⟨hcs, _⟩ | ⟨a, len, cap, Bf, hcs, _, hl, hm, _, hcell⟩
  · simp at hcs
    subst hcs
    exact ⟨none, 0, [], 0, rfl, rfl, by omega, RdL.nil⟩
  · simp at hcs
    subst hcs
    obtain ⟨b, o, spot⟩ := a
    refine ⟨some ⟨b, o, spot⟩, cap, (List.range len).map Bf, len, rfl, ?_, ?_, ?_⟩
    · show ((List.range len).map Bf).length = len
      simp
    · simp only [maxLen] at hm; omega
    · intro j hj
      have hj' : j < len := by simpa using hj
      have hs : spot = none := by simpa [Addr.add] using World.cell?_spot (hcell 0 (by omega))
      subst hs
      refine ⟨b, o, rfl, ?_⟩
      have := hcell j (by omega)
      rw [show (⟨b, o, none⟩ : Addr).add j = ⟨b, o + j, none⟩ from by unfold Addr.add; split <;> simp_all] at this
      rw [this]
      simp
end

end Go.Proofs.Ytbodfepfapjikaa
