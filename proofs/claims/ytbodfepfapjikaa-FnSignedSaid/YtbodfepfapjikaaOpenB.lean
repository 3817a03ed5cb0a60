/-
  From data to lists of bytes. No program in sight.
-/
import Derived.Test.YtbodfepfapjikaaOpen
namespace Go.Proofs.Ytbodfepfapjikaa
open Go.ChangeShapes Go.WideShapes Go.ChangeAt Go.RowKit Go.Deep

section
variable {H : Type} {enc : TypeId × Value → H} {P : Program} {w : World}
theorem byte_wf {y : Int} (h : (Lit.int .u8 y).wf = true) : 0 ≤ y ∧ y ≤ 255 := by
  simpa [Lit.wf, IntKind.min, IntKind.max, IntKind.signed, IntKind.bits] using h
theorem open_byteL {t e : TypeId} {fuel : Nat} {v : Value} {x : DataW H × List MemPlace} (ht : P.underlying t = some (.slice e)) (he : P.underlying e = some (.int .u8)) (hc : P.cellsOf e = 1)
    (h : DataW.trod enc P w 0 (fun _ => true) true fuel t [v] = some x) :
    ∃ A c xs n, v = .slice A n c ∧ Hid (xs.length = n) ∧ n ≤ 9223372036854775807 ∧ RdL (Value.int .u8) w A xs ∧ ∀ y ∈ xs, 0 ≤ y ∧ y ≤ 255 := by
  rcases open_ints ht he hc h with ⟨hcs, _⟩ | ⟨a, len, cap, zs, hcs, _, hl, hm, hz, _, hcell, hwz⟩
  · simp at hcs
    subst hcs
    exact ⟨none, 0, [], 0, rfl, rfl, by omega, RdL.nil, by simp⟩
  · simp at hcs hz
    subst hcs
    obtain ⟨b, o, spot⟩ := a
    refine ⟨some ⟨b, o, spot⟩, cap, zs.take len, len, rfl, ?_, ?_, ?_, fun y hy => byte_wf (hwz y (List.mem_of_mem_take hy))⟩
    · show (zs.take len).length = len
      simp; omega
    · simp only [maxLen] at hm; omega
    · intro j hj
      have hj' : j < len ∧ j < zs.length := by
        have h0 : j < (zs.take len).length := hj
        simp at h0; omega
      have hs : spot = none := by simpa [Addr.add] using World.cell?_spot (hcell 0 (by omega))
      subst hs
      refine ⟨b, o, rfl, ?_⟩
      have := hcell j hj'.2
      rw [show (⟨b, o, none⟩ : Addr).add j = ⟨b, o + j, none⟩ from by unfold Addr.add; split <;> simp_all] at this
      rw [this]
      simp [hj'.2]
end
end Go.Proofs.Ytbodfepfapjikaa
