/-
  Cells appended to a slice of cells of the call's own.
-/
import Derived.Test.YtmafkkpdcajfoaaLay
namespace Go.Proofs.Ytmafkkpdcajfoaa
open Go.RowKit
set_option linter.unusedVariables false

theorem Try.infoC : (Try.prog.info? 46).map (fun i => (i.zero, i.size, i.bytes)) = some (some (.agg #[.int .i64 0, .int .i64 0, .int .i64 0, .slice none 0 0]), 4, 48) := by kernel_rfl

theorem OwnS.grown {α : Type} {f : α → Value} {w w' : World} {B : Nat} {t : TypeId} {A : Option Addr} {xs : List α} {row : Option Nat} (h : OwnS f w B t A xs) (hg : w.grownBy w' row) (hne : ∀ g, row = some g → xs.length = 0 ∨ ∀ o, A ≠ some ⟨g, o, none⟩) : OwnS f w' B t A xs := fun hn => by
  obtain ⟨g, ex, rfl, hB, hb⟩ := h hn
  refine ⟨g, ex, rfl, hB, (hg.block g hb.lt fun e => ?_).trans hb⟩
  rcases hne g e.symm with h0 | h0
  · exact hn (List.eq_nil_of_length_eq_zero h0)
  · exact h0 0 rfl
/-- v is a slice of cells of the call's own that holds L, as append leaves it. -/
structure OwnVC (w : World) (B : Nat) (v : Value) (L : List Lay) : Prop where
  row : w.ownsRow B 46 4 v L.length (flatL L)
  own : ∀ (i : Nat) (e : Lay), L[i]? = some e → OwnS (Value.int .i64) w B 2 e.A e.x
  apart : ∀ (i j : Nat) (e e' : Lay), i ≠ j → L[i]? = some e → L[j]? = some e' → Apart e.A e.x.length e'.A e'.x.length
theorem OwnVC.made (w : World) {B : Nat} (hB : B ≤ w.heap.size) : OwnVC (w.alloc (.cells #[] 46)) B (.slice (some ⟨w.heap.size, 0, none⟩) 0 0) [] :=
  ⟨World.ownsRow_made w #[] 0 hB (Nat.zero_le _) rfl, fun i e h => by simp at h, fun i j e e' _ h => by simp at h⟩
theorem OwnVC.below {w w' : World} {B : Nat} {v : Value} {L : List Lay} (h : OwnVC w B v L) (hb : Below w.heap.size w w') : OwnVC w' B v L := by
  refine ⟨?_, fun i e he => (h.own i e he).below hb, h.apart⟩
  obtain ⟨hn, h | ⟨g, cap, cur, hv, hB, hg, hc, hm, hs, ht⟩⟩ := h.row
  · exact ⟨hn, .inl h⟩
  · exact ⟨hn, .inr ⟨g, cap, cur, hv, hB, (hb.block g (Array.getElem?_eq_some_iff.1 hg).1).trans hg, hc, hm, hs, ht⟩⟩
theorem OwnVC.parts {w : World} {B : Nat} {v : Value} {L : List Lay} (h : OwnVC w B v L) : ∃ A c, v = .slice A L.length c ∧ OwnC w B A L := by
  obtain ⟨hn, h1 | ⟨g, cap, cur, hv, hB, hg, hc, hm, hs, ht⟩⟩ := h.row
  · obtain ⟨rfl, h0⟩ := h1
    obtain rfl : L = [] := List.eq_nil_of_length_eq_zero h0
    exact ⟨none, 0, rfl, ⟨fun q => absurd rfl q, h.own, h.apart⟩⟩
  · refine ⟨some ⟨g, 0, none⟩, cap, hv, ⟨fun _ => ⟨g, cur.toList.drop (L.length * 4), rfl, hB, ?_⟩, h.own, h.apart⟩⟩
    unfold Blk
    rw [hg, ← ht, List.take_append_drop]

/-- The cells to be appended, out of a block that is known whole. -/
theorem World.news_of_block' {w : World} {B : Nat} {cs : Array Value} {t : TypeId} {fr : Nat × Nat} (hb : w.heap[B]? = some (.cells cs t fr)) : ∀ j u, cs.toList[j]? = some u → w.cell? ((⟨B, 0, none⟩ : Addr).add j) = some u := fun j u hu => by
  have hadd : (⟨B, 0, none⟩ : Addr).add j = ⟨B, j, none⟩ := by unfold Addr.add; split <;> simp_all
  rw [hadd, cell_of_row w B j cs t fr hb]
  simpa using hu

theorem app_lay {ops : Array Oper} {rest : List Oper} {o : Oper} {a : Act} {Q : Exit → Act → World → Prop} (hgd : o.guard = none) (s x : Operand)
    (ho : o.op = .call { callee := .builtin .append, args := #[s, x], argTypes := #[27, 27] })
    (e : Lay) {w0 wr : World} {B : Nat} {v : Value} {L : List Lay} (hown : OwnVC wr B v L) (hB : Below B w0 wr) (he : OwnS (Value.int .i64) wr B 2 e.A e.x)
    (hap : ∀ (i : Nat) (f : Lay), L[i]? = some f → Apart f.A f.x.length e.A e.x.length) (hs : a.eval s = v) (hx : a.eval x = .slice (some ⟨wr.heap.size, 0, none⟩) 1 1)
    (hl : L.length ≤ 1048576) (hsz : B ≤ wr.heap.size)
    (h : ∀ v' w', Hid (OwnVC w' B v' (L ++ [e])) → Hid (Below B w0 w') → wpList Try.prog ops Q rest (a.put o.dst v') w') :
    wpList Try.prog ops Q (o :: rest) a (wr.alloc (.cells #[.int .i64 e.a, .int .i64 e.b, .int .i64 e.s, .slice e.A e.x.length e.c] 46)) := by
  obtain ⟨i0, hi0, hz0, hz1, hz2⟩ := info_parts Try.infoC
  have hrow : World.ownsRow (wr.alloc (.cells #[.int .i64 e.a, .int .i64 e.b, .int .i64 e.s, .slice e.A e.x.length e.c] 46)) B 46 4 v L.length (flatL L) := World.ownsRow.alloc hown.row _
  refine wpList_append_own _ hgd s x 27 ho B 46 i0 (.agg #[.int .i64 0, .int .i64 0, .int .i64 0, .slice none 0 0]) 4 48 Try.underlying27 hi0 hz0 hz1 hz2 rfl (by decide) v L.length _ hs hrow ⟨wr.heap.size, 0, none⟩ 1 1 e.cells hx rfl ?_ ?_ ?_ ?_ ?_ ?_
  · exact World.news_of_block' (cs := #[.int .i64 e.a, .int .i64 e.b, .int .i64 e.s, .slice e.A e.x.length e.c]) (heap_alloc_new wr _)
  · intro u hu; simp only [Lay.cells, List.mem_cons, List.not_mem_nil, or_false] at hu; rcases hu with rfl | rfl | rfl | rfl <;> rfl
  · simp only [maxLen]; omega
  · omega
  · simp; omega
  · intro v' w1 hown' hgrow _
    have hne : ∀ {A : Option Addr} {xs : List Int} {w : World}, w = wr.alloc (.cells #[.int .i64 e.a, .int .i64 e.b, .int .i64 e.s, .slice e.A e.x.length e.c] 46) → OwnS (Value.int .i64) w B 2 A xs → ∀ g, v.ownBlock = some g → xs.length = 0 ∨ ∀ o, A ≠ some ⟨g, o, none⟩ := by
      rintro A xs w rfl hoS g hg
      obtain ⟨hn, h1 | ⟨g', cap, cur, hv, hB', hgg, hc, hm, hs', ht⟩⟩ := hrow
      · rw [h1.1] at hg; cases hg
      · rw [hv] at hg
        have hgg' : g' = g := by simpa [Value.ownBlock] using hg
        subst hgg'
        exact OwnS.other hoS (t := 46) (cs := cur.toList) (by unfold Blk; simpa using hgg) (by decide)
    have hbel : Below wr.heap.size wr (wr.alloc (.cells #[.int .i64 e.a, .int .i64 e.b, .int .i64 e.s, .slice e.A e.x.length e.c] 46)) := Below.alloc (Below.refl _ _) (Nat.le_refl _) _
    refine h v' w1 ⟨?_, fun i f hf => ?_, fun i j f f' hij hf hf' => ?_⟩ ?_
    · have e1 : (L ++ [e]).length = L.length + 1 := by simp
      rw [e1, flatL_append, flatL_one]; exact hown'
    · by_cases hi : i < L.length
      · rw [List.getElem?_append_left hi] at hf
        have h2 := (hown.own i f hf).below hbel
        exact h2.grown hgrow (hne rfl h2)
      · rw [List.getElem?_append_right (by omega)] at hf
        have h3 : e = f := by
          have := List.mem_of_getElem? hf
          simp at this; exact this.symm
        subst h3
        have h2 := he.below hbel
        exact h2.grown hgrow (hne rfl h2)
    · have key : ∀ (i : Nat) (f : Lay), (L ++ [e])[i]? = some f → (i < L.length ∧ L[i]? = some f) ∨ (i = L.length ∧ f = e) := fun i f hf => by
        by_cases hi : i < L.length
        · rw [List.getElem?_append_left hi] at hf; exact .inl ⟨hi, hf⟩
        · rw [List.getElem?_append_right (by omega)] at hf
          have h3 := List.mem_of_getElem? hf
          have h4 : i - L.length < 1 := by simpa using (List.getElem?_eq_some_iff.1 hf).1
          simp at h3
          exact .inr ⟨by omega, h3⟩
      rcases key i f hf with ⟨_, h1⟩ | ⟨h1, rfl⟩ <;> rcases key j f' hf' with ⟨_, h2⟩ | ⟨h2, rfl⟩
      · exact hown.apart i j f f' hij h1 h2
      · exact hap i f h1
      · exact Apart.symm (hap j f' h2)
      · omega
    · exact (hB.alloc hsz _).grown hgrow (by simp; omega) (fun g hg => (World.ownsRow.lt hrow g hg).1)
end Go.Proofs.Ytmafkkpdcajfoaa
