/-
  Copies of the call's own: slices.Clone, and the reference's l04Own, by contracts.
-/
import Derived.Test.YtbodfepfapjikaaDoorCellPlace
import Derived.Lib.SliceRun
namespace Go.Proofs.YtbodfepfapjikaaDoor
open Go.RowKit
set_option linter.unusedVariables false

theorem rd_news {α : Type} {f : α → Value} {w : World} {ad : Addr} {x : List α} (h : RdL f w (some ad) x) : ∀ j u, (x.map f)[j]? = some u → w.cell? (ad.add j) = some u := fun j u hu => by
  rw [List.getElem?_map] at hu
  by_cases hj : j < x.length
  · obtain ⟨b, o, hA, hc⟩ := h j hj
    injection hA with hA
    subst hA
    rw [List.getElem?_eq_getElem hj] at hu
    have : (⟨b, o, none⟩ : Addr).add j = ⟨b, o + j, none⟩ := by unfold Addr.add; split <;> simp_all
    rw [this, hc]
    simpa using hu
  · rw [List.getElem?_eq_none (by omega)] at hu
    cases hu
theorem rd_none {α : Type} {f : α → Value} {w : World} {x : List α} (h : RdL f w none x) : x = [] := by
  rcases x with _ | ⟨a, x⟩
  · rfl
  · obtain ⟨b, o, hA, _⟩ := h 0 (by simp)
    cases hA

theorem Tryd.infoB : (Tryd.prog.info? 4).map (fun i => (i.zero, i.size, i.bytes)) = some (some (.bool false), 1, 1) := by kernel_rfl
theorem OwnS.setFar {α : Type} {f : α → Value} {w : World} {B : Nat} {t : TypeId} {A : Option Addr} {xs : List α} (h : OwnS f w B t A xs) {p : Addr} (hp : p.block < B) (u : Value) : OwnS f (w.setCell p u) B t A xs := fun hn => by
  obtain ⟨g, ex, hA, hB, hb⟩ := h hn
  exact ⟨g, ex, hA, hB, hb.far (by omega) u⟩
theorem ownS_lit {α : Type} {f : α → Value} {w : World} {B : Nat} {e : TypeId} {g c n : Nat} {l : List Value} {xs : List α} (h : w.ownsRow B e 1 (.slice (some ⟨g, 0, none⟩) n c) n l) (hl : l = xs.map f) (hn : xs.length = n) : OwnS f w B e (some ⟨g, 0, none⟩) xs := by
  subst hl
  obtain ⟨A, c', hv, ho⟩ := ownS_of_row h hn
  injection hv with h1
  rw [h1]; exact ho
end Go.Proofs.YtbodfepfapjikaaDoor
