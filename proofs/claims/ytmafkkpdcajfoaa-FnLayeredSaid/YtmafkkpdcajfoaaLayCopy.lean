/-
  The laws' helpers over a slice of cells that came in: size, copy: by contracts.
-/
import Derived.Test.YtmafkkpdcajfoaaLayApp
import Derived.Test.YtmafkkpdcajfoaaLayLaw
import Derived.Laws.MakeOwn
namespace Go.Proofs.Ytmafkkpdcajfoaa
open Go.RowKit
set_option linter.unusedVariables false
set_option linter.unusedSimpArgs false

def zeroLay : Lay := ⟨0, 0, 0, none, 0, []⟩
theorem made_four (n : Nat) : (madeCells #[.int .i64 0, .int .i64 0, .int .i64 0, .slice none 0 0] (n * 4)).toList = flatL (List.replicate n zeroLay) := by
  apply List.ext_getElem?
  intro k
  by_cases hk : k < n * 4
  · have h1 : (List.replicate n zeroLay)[k / 4]? = some zeroLay := by rw [List.getElem?_replicate, if_pos (by omega)]
    have h2 := flatL_at h1 (j := k % 4) (by omega)
    rw [show 4 * (k / 4) + k % 4 = k by omega] at h2
    rw [h2, Array.getElem?_toList]
    have h3 : k % 4 = 0 ∨ k % 4 = 1 ∨ k % 4 = 2 ∨ k % 4 = 3 := by omega
    unfold madeCells
    rw [Array.getElem?_map, Array.getElem?_range, if_pos hk]
    simp only [Option.map_some]
    rcases h3 with h3 | h3 | h3 | h3 <;> simp [h3, zeroLay, Lay.cells]
  · rw [List.getElem?_eq_none (by simp [size_madeCells]; omega), List.getElem?_eq_none (by rw [flatL_length, List.length_replicate]; omega)]
/-- Element i, written whole. -/
theorem OwnC.put4 {w : World} {B : Nat} {A : Option Addr} {L : List Lay} (h : OwnC w B A L) {i : Nat} {e : Lay} (he : L[i]? = some e) (e' : Lay) (ho : OwnS (Value.int .i64) w B 2 e'.A e'.x)
    (hap : ∀ (j : Nat) (f : Lay), j ≠ i → L[j]? = some f → Apart f.A f.x.length e'.A e'.x.length) :
    ∃ g, A = some ⟨g, 0, none⟩ ∧ B ≤ g ∧ w.frozen? ⟨g, i * 4, none⟩ = false ∧ w.frozen? ⟨g, i * 4 + 1, none⟩ = false ∧ w.frozen? ⟨g, i * 4 + 2, none⟩ = false ∧ w.frozen? ⟨g, i * 4 + 3, none⟩ = false ∧
      w.cell? ⟨g, i * 4, none⟩ = some (.int .i64 e.a) ∧ w.cell? ⟨g, i * 4 + 1, none⟩ = some (.int .i64 e.b) ∧ w.cell? ⟨g, i * 4 + 2, none⟩ = some (.int .i64 e.s) ∧ w.cell? ⟨g, i * 4 + 3, none⟩ = some (.slice e.A e.x.length e.c) ∧
      OwnC ((((w.setCell ⟨g, i * 4, none⟩ (.int .i64 e'.a)).setCell ⟨g, i * 4 + 1, none⟩ (.int .i64 e'.b)).setCell ⟨g, i * 4 + 2, none⟩ (.int .i64 e'.s)).setCell ⟨g, i * 4 + 3, none⟩ (.slice e'.A e'.x.length e'.c)) B A (L.set i e') := by
  have hne : L ≠ [] := by rintro rfl; simp at he
  obtain ⟨g, ex, rfl, hB, hb⟩ := h.blk hne
  have hlt : i < L.length := (List.getElem?_eq_some_iff.1 he).1
  have hc : ∀ j u, j < 4 → e.cells[j]? = some u → w.cell? ⟨g, i * 4 + j, none⟩ = some u := fun j u hj hu => hb.cell (by rw [Nat.mul_comm i 4, List.getElem?_append_left (by rw [flatL_length]; omega), flatL_at he hj, hu])
  have hla : ∀ e'' : Lay, (L.set i e'')[i]? = some e'' := fun e'' => by simp [hlt]
  have b1 := hb.set_ (4 * i + 0) (.int .i64 e'.a)
  rw [List.set_append_left _ _ (by rw [flatL_length]; omega), flatL_set he (j := 0) (by omega) (u := .int .i64 e'.a) (e' := { e with a := e'.a }) rfl] at b1
  have b2 := b1.set_ (4 * i + 1) (.int .i64 e'.b)
  rw [List.set_append_left _ _ (by rw [flatL_length, List.length_set]; omega), flatL_set (hla { e with a := e'.a }) (j := 1) (by omega) (u := .int .i64 e'.b) (e' := { e with a := e'.a, b := e'.b }) rfl, List.set_set] at b2
  have b3 := b2.set_ (4 * i + 2) (.int .i64 e'.s)
  rw [List.set_append_left _ _ (by rw [flatL_length, List.length_set]; omega), flatL_set (hla { e with a := e'.a, b := e'.b }) (j := 2) (by omega) (u := .int .i64 e'.s) (e' := { e with a := e'.a, b := e'.b, s := e'.s }) rfl, List.set_set] at b3
  have b4 := b3.set_ (4 * i + 3) (.slice e'.A e'.x.length e'.c)
  rw [List.set_append_left _ _ (by rw [flatL_length, List.length_set]; omega), flatL_set (hla { e with a := e'.a, b := e'.b, s := e'.s }) (j := 3) (by omega) (u := .slice e'.A e'.x.length e'.c) (e' := e') rfl, List.set_set] at b4
  rw [Nat.add_zero, Nat.mul_comm 4 i] at b4
  have so : ∀ {A : Option Addr} {xs : List Int}, OwnS (Value.int .i64) w B 2 A xs → OwnS (Value.int .i64) ((((w.setCell ⟨g, i * 4, none⟩ (.int .i64 e'.a)).setCell ⟨g, i * 4 + 1, none⟩ (.int .i64 e'.b)).setCell ⟨g, i * 4 + 2, none⟩ (.int .i64 e'.s)).setCell ⟨g, i * 4 + 3, none⟩ (.slice e'.A e'.x.length e'.c)) B 2 A xs := by
    intro A xs hs
    rw [Nat.add_zero, Nat.mul_comm 4 i] at b1 b2 b3
    exact (((hs.setOther hb (by decide) _ _).setOther b1 (by decide) _ _).setOther b2 (by decide) _ _).setOther b3 (by decide) _ _
  refine ⟨g, rfl, hB, hb.frozen _, hb.frozen _, hb.frozen _, hb.frozen _, by have := hc 0 _ (by omega) rfl; rwa [Nat.add_zero] at this, hc 1 _ (by omega) rfl, hc 2 _ (by omega) rfl, hc 3 _ (by omega) rfl, ⟨fun _ => ⟨g, ex, rfl, hB, b4⟩, fun k f hk => ?_, fun k l f f' hkl hk hl => ?_⟩⟩
  · by_cases hki : k = i
    · subst hki
      rw [hla] at hk
      injection hk with hk
      subst hk
      exact so ho
    · rw [List.getElem?_set_ne (fun q => hki q.symm)] at hk
      exact so (h.own k f hk)
  · by_cases hki : k = i
    · subst hki
      rw [hla] at hk
      injection hk with hk
      subst hk
      rw [List.getElem?_set_ne hkl] at hl
      exact Apart.symm (hap l f' (fun q => hkl q.symm) hl)
    · rw [List.getElem?_set_ne (fun q => hki q.symm)] at hk
      by_cases hli : l = i
      · subst hli
        rw [hla] at hl
        injection hl with hl
        subst hl
        exact hap k f hki hk
      · rw [List.getElem?_set_ne (fun q => hli q.symm)] at hl
        exact h.apart k l f f' hkl hk hl
/-- The sum of the lengths of the first n. -/
def lenL (L : List Lay) : Nat → Int
  | 0 => 0
  | n + 1 => lenL L n + (match L[n]? with | some e => (e.x.length : Int) | none => 0)
theorem lenL_succ {L : List Lay} {n : Nat} {e : Lay} (h : L[n]? = some e) : lenL L (n + 1) = lenL L n + (e.x.length : Int) := by simp [lenL, h]
theorem lenL_mono (L : List Lay) {i j : Nat} (h : i ≤ j) : lenL L i ≤ lenL L j := by
  induction j with
  | zero => have : i = 0 := by omega
            subst this; exact Int.le_refl _
  | succ j ih =>
    rcases Nat.lt_or_ge i (j + 1) with h1 | h1
    · have := ih (by omega)
      have h2 : lenL L j ≤ lenL L (j + 1) := by
        simp only [lenL]
        cases L[j]? with
        | none => exact Int.le_of_eq (by simp)
        | some v => exact Int.le_add_of_nonneg_right (Int.natCast_nonneg v.x.length)
      omega
    · have : i = j + 1 := by omega
      subst this; exact Int.le_refl _
theorem lenL_mem {L : List Lay} {M : Int} (h : lenL L L.length ≤ M) : ∀ e ∈ L, (e.x.length : Int) ≤ M := by
  intro e he
  obtain ⟨i, hi, rfl⟩ := List.mem_iff_getElem.1 he
  have h1 := lenL_succ (List.getElem?_eq_getElem hi)
  have h2 := lenL_mono L (show i + 1 ≤ L.length by omega)
  have h3 := lenL_mono L (show 0 ≤ i by omega)
  simp only [lenL] at h3
  omega
end Go.Proofs.Ytmafkkpdcajfoaa
