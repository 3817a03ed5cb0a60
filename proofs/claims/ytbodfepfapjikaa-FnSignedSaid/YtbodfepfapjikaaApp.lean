/-
  One element appended to a slice of the call's own.
-/
import Derived.Test.YtbodfepfapjikaaRet
import Derived.Maps.AppendAt
import Derived.Deep.AppendLies
namespace Go.Proofs.Ytbodfepfapjikaa
open Go.RowKit
set_option linter.unusedVariables false

/-- v is a slice of the call's own (from block B on) that holds xs, as append leaves it. -/
def OwnV (w : World) (B : Nat) (v : Value) (xs : List Int) : Prop := w.ownsRow B 2 1 v xs.length (xs.map (Value.int .i64))
theorem OwnV.made (w : World) {B : Nat} (hB : B ≤ w.heap.size) : OwnV (w.alloc (.cells #[] 2)) B (.slice (some ⟨w.heap.size, 0, none⟩) 0 0) [] := World.ownsRow_made w #[] 0 hB (Nat.zero_le _) rfl
theorem OwnV.drewN {w : World} {B : Nat} {v : Value} {xs : List Int} (h : OwnV w B v xs) (n : Nat) : OwnV (w.drewN n) B v xs := h
theorem OwnV.below {w w' : World} {B : Nat} {v : Value} {xs : List Int} (h : OwnV w B v xs) (hb : Below w.heap.size w w') : OwnV w' B v xs := by
  obtain ⟨hn, h | ⟨g, cap, cur, hv, hB, hg, hc, hm, hs, ht⟩⟩ := h
  · exact ⟨hn, .inl h⟩
  · refine ⟨hn, .inr ⟨g, cap, cur, hv, hB, ?_, hc, hm, hs, ht⟩⟩
    exact (hb.block g (Array.getElem?_eq_some_iff.1 hg).1).trans hg
theorem OwnV.mono {w : World} {B B' : Nat} {v : Value} {xs : List Int} (h : OwnV w B v xs) (hB : B' ≤ B) : OwnV w B' v xs := by
  obtain ⟨hn, h | ⟨g, cap, cur, hv, h1, hg, hc, hm, hs, ht⟩⟩ := h
  · exact ⟨hn, .inl h⟩
  · exact ⟨hn, .inr ⟨g, cap, cur, hv, by omega, hg, hc, hm, hs, ht⟩⟩
theorem OwnV.ownS {w : World} {B : Nat} {v : Value} {xs : List Int} (h : OwnV w B v xs) : ∃ A c, v = .slice A xs.length c ∧ OwnS (Value.int .i64) w B 2 A xs := ownS_of_row h rfl

/-- Two such slices lie in different blocks. -/
def AptV (v u : Value) : Prop := ∀ g, v.ownBlock = some g → u.ownBlock ≠ some g
theorem AptV.symm {v u : Value} (h : AptV v u) : AptV u v := fun g h1 h2 => h g h2 h1
/-- What an append to v, which became v', has left of other slices of the call's own. -/
def Keeps (w : World) (B : Nat) (v : Value) (w' : World) (v' : Value) : Prop := ∀ u ys, OwnV w B u ys → AptV v u → OwnV w' B u ys ∧ AptV v' u
theorem OwnV.lt {w : World} {B : Nat} {v : Value} {xs : List Int} (h : OwnV w B v xs) (g : Nat) (hg : v.ownBlock = some g) : g < w.heap.size ∧ B ≤ g := by
  have := World.ownsRow.lt h g hg
  omega
theorem OwnV.grown {w w' : World} {B : Nat} {u : Value} {ys : List Int} {row : Option Nat} (h : OwnV w B u ys) (hg : w.grownBy w' row) (hne : ∀ g, u.ownBlock = some g → some g ≠ row) : OwnV w' B u ys := by
  obtain ⟨hn, h | ⟨g, cap, cur, hv, hB, hgg, hc, hm, hs, ht⟩⟩ := h
  · exact ⟨hn, .inl h⟩
  · refine ⟨hn, .inr ⟨g, cap, cur, hv, hB, ?_, hc, hm, hs, ht⟩⟩
    exact (hg.block g (Array.getElem?_eq_some_iff.1 hgg).1 (hne g (by rw [hv]; rfl))).trans hgg

/-- At place j: the cell is there and may be written; what is written lies there. -/
theorem OwnV.put {w : World} {B : Nat} {v : Value} {xs : List Int} (h : OwnV w B v xs) {j : Nat} (hj : j < xs.length) :
    ∃ g c u, v = .slice (some ⟨g, 0, none⟩) xs.length c ∧ B ≤ g ∧ g < w.heap.size ∧ w.cell? ⟨g, j, none⟩ = some (.int .i64 u) ∧ w.frozen? ⟨g, j, none⟩ = false ∧ Hid (xs[j]? = some u) ∧
      ∀ x, Hid (OwnV (w.setCell ⟨g, j, none⟩ (.int .i64 x)) B v (xs.set j x)) := by
  obtain ⟨hn, h | ⟨g, cap, cur, hv, hB, hg, hc, hm, hs, ht⟩⟩ := h
  · omega
  · rw [Nat.mul_one] at ht hs
    have hjc : j < cur.size := by omega
    have hlt : g < w.heap.size := (Array.getElem?_eq_some_iff.1 hg).1
    have hcj : cur[j]? = some (.int .i64 xs[j]) := by
      have h1 : (cur.toList.take xs.length)[j]? = some (.int .i64 xs[j]) := by rw [ht, List.getElem?_map, List.getElem?_eq_getElem hj]; rfl
      rw [List.getElem?_take_of_lt hj] at h1
      simpa using h1
    refine ⟨g, cap, xs[j], hv, hB, hlt, ?_, ?_, by show xs[j]? = _; simp [hj], fun x => hid ?_⟩
    · rw [cell_of_row w g j cur 2 (0, 0) hg]; exact hcj
    · simp [World.frozen?, hg]
    · unfold OwnV
      rw [List.length_set]
      refine ⟨by simp, .inr ⟨g, cap, cur.setIfInBounds j (.int .i64 x), hv, hB, ?_, hc, hm, by simpa using hs, ?_⟩⟩
      · simp [World.setCell, Array.getElem?_modify, hg]
      · rw [Nat.mul_one, Array.toList_setIfInBounds, List.take_set, ht, List.map_set]
theorem OwnV.setOther {w : World} {B : Nat} {v : Value} {xs : List Int} (h : OwnV w B v xs) {g : Nat} (hne : v.ownBlock ≠ some g) (j : Nat) (u : Value) : OwnV (w.setCell ⟨g, j, none⟩ u) B v xs := by
  obtain ⟨hn, h | ⟨g', cap, cur, hv, hB, hg, hc, hm, hs, ht⟩⟩ := h
  · exact ⟨hn, .inl h⟩
  · refine ⟨hn, .inr ⟨g', cap, cur, hv, hB, ?_, hc, hm, hs, ht⟩⟩
    refine (Below.heap_setCell w ⟨g, j, none⟩ u g' ?_).trans hg
    rintro rfl
    exact hne (by rw [hv]; rfl)

theorem app_int {ops : Array Oper} {rest : List Oper} {o : Oper} {a : Act} {Q : Exit → Act → World → Prop} (hgd : o.guard = none) (s x : Operand)
    (ho : o.op = .call { callee := .builtin .append, args := #[s, x], argTypes := #[22, 22] })
    (y : Int) {w0 wr : World} {B : Nat} {v : Value} {xs : List Int} (hown : OwnV wr B v xs) (hB : Below B w0 wr) (hs : a.eval s = v) (hx : a.eval x = .slice (some ⟨wr.heap.size, 0, none⟩) 1 1)
    (hl : xs.length ≤ 1048577) (hsz : B ≤ wr.heap.size)
    (h : ∀ v' w', Hid (OwnV w' B v' (xs ++ [y])) → Hid (Below B w0 w') → Hid (wr.heap.size + 1 ≤ w'.heap.size) → Hid (Keeps wr B v w' v') → wpList Try.prog ops Q rest (a.put o.dst v') w') :
    wpList Try.prog ops Q (o :: rest) a (wr.alloc (.cells #[.int .i64 y] 2)) := by
  obtain ⟨i0, hi0, hz0, hz1, hz2⟩ := info_parts Try.infoI
  refine wpList_append_own_at (wr.alloc (.cells #[.int .i64 y] 2)) hgd s x 22 ho B 2 i0 (.int .i64 0) 1 8 Try.underlying22 hi0 hz0 hz1 hz2 rfl (by decide) v xs.length _ hs (World.ownsRow.alloc hown _) ⟨wr.heap.size, 0, none⟩ 1 1 [.int .i64 y] hx rfl (cell_one_new _ _ _) ?_ ?_ ?_ ?_ ?_
  · intro u hu; simp at hu; subst hu; rfl
  · simp only [maxLen]; omega
  · omega
  · simp; omega
  · intro v' w1 hown' hgrow _ hat
    refine h v' w1 ?_ ?_ ?_ ?_
    · have e : (xs ++ [y]).length = xs.length + 1 := by simp
      unfold OwnV
      rw [e, List.map_append]; exact hown'
    · exact (hB.alloc hsz _).grown hgrow (by simp; omega) (fun g hg => (World.ownsRow.lt (World.ownsRow.alloc hown (.cells #[.int .i64 y] 2)) g hg).1)
    · have := hgrow.size; simp at this; exact this
    · intro u ys hu hap
      have hu' : OwnV (wr.alloc (.cells #[.int .i64 y] 2)) B u ys := hu.below (Below.alloc (Below.refl _ _) (Nat.le_refl _) _)
      refine ⟨hu'.grown hgrow fun g hg e => hap g e.symm hg, fun g hg => ?_⟩
      rcases hat with hat | hat
      · exact hap g (hat ▸ hg)
      · intro e
        rw [hat] at hg
        injection hg with hg
        have := (hu.lt g e).1
        simp at hg
        omega
/-- What an append to v, which became v', has left of other blocks. -/
def KeepB (w : World) (v : Value) (w' : World) (v' : Value) : Prop := ∀ g t cs, Blk w g t cs → v.ownBlock ≠ some g → Blk w' g t cs ∧ v'.ownBlock ≠ some g
/-- The same at a step of a region that draws its order: the element lies in block g. -/
theorem step_app_int {ops : Array Oper} {o : Oper} {a : Act} {K : Act → World → Prop} {Q : Exit → Act → World → Prop} {E : Prop} (hgd : o.guard = none) (s x : Operand)
    (ho : o.op = .call { callee := .builtin .append, args := #[s, x], argTypes := #[22, 22] })
    (y : Int) (g : Nat) {w0 w1 W : World} {B : Nat} {v : Value} {xs : List Int} (hown : OwnV w1 B v xs) (hB : Below B w0 w1) (hg : Blk w1 g 2 [.int .i64 y]) (hs : a.eval s = v) (hx : a.eval x = .slice (some ⟨g, 0, none⟩) 1 1)
    (hl : xs.length ≤ 1048577) (hsz : B ≤ w1.heap.size) (hW : W.heap = w1.heap ∧ W.os = w1.os ∧ W.tape = w1.tape ∧ W.output = w1.output := by exact ⟨rfl, rfl, rfl, rfl⟩)
    (h : ∀ v' w', Hid (OwnV w' B v' (xs ++ [y])) → Hid (Below B w0 w') → W.grownBy w' v.ownBlock → Hid (KeepB w1 v w' v') → K (a.put o.dst v') w') :
    if Region.wanted o (yielded ops a.tmps) = true then Oper.wp Try.prog o a W K Q else E := by
  obtain ⟨i0, hi0, hz0, hz1, hz2⟩ := info_parts Try.infoI
  have hown' : OwnV W B v xs := by
    obtain ⟨hn, h | ⟨g, cap, cur, hv, hB, hgg, hc, hm, hs, ht⟩⟩ := hown
    · exact ⟨hn, .inl h⟩
    · exact ⟨hn, .inr ⟨g, cap, cur, hv, hB, by rw [hW.1]; exact hgg, hc, hm, hs, ht⟩⟩
  have hB' : Below B w0 W := ⟨hW.2.1.trans hB.os, hW.2.2.1.trans hB.tape, hW.2.2.2.trans hB.output, by rw [hW.1]; exact hB.size, fun k hk => by rw [hW.1]; exact hB.block k hk⟩
  have hg' : W.heap[g]? = some (.cells #[.int .i64 y] 2 (0, 0)) := by rw [hW.1]; exact hg
  refine step_append_lies _ hgd s x 22 ho B 2 i0 (.int .i64 0) 1 8 Try.underlying22 hi0 hz0 hz1 hz2 rfl (by decide) v xs.length _ hs hown' ⟨g, 0, none⟩ 1 1 [.int .i64 y] hx rfl (World.news_of_block (cs := #[.int .i64 y]) (t := 2) (fr := (0, 0)) hg') (by simp [Value.oneCell']) (by omega) (by simp only [maxLen]; omega) (by omega) (by rw [hW.1]; exact hsz) W.heap.size rfl ?_
  intro gg cap w' hown1 hgrow hat hlt'
  refine h _ w' ?_ ?_ hgrow ?_
  · have e : (xs ++ [y]).length = xs.length + 1 := by simp
    unfold OwnV
    rw [e, List.map_append]; exact hown1
  · exact hB'.grown hgrow (by rw [hW.1]; exact hsz) (fun k hk => (World.ownsRow.lt hown' k hk).1)
  · intro g2 t2 cs2 hb2 hne2
    have hlt2 : g2 < W.heap.size := by rw [hW.1]; exact hb2.lt
    refine ⟨(hgrow.block g2 hlt2 (fun e => hne2 e.symm)).trans (by rw [hW.1]; exact hb2), fun e => ?_⟩
    injection e with e
    have e' : gg = g2 := e
    subst e'
    rcases hat with hat | hat
    · exact hne2 hat
    · omega
end Go.Proofs.Ytbodfepfapjikaa
