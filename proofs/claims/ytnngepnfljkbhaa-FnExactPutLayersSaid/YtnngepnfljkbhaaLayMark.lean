/-
  Marks over a slice of cells of any length; blocks behind a bound stay as they are.
-/
import Derived.Test.YtnngepnfljkbhaaLayLaw
import Derived.Test.YtnngepnfljkbhaaLayCopy
namespace Go.Proofs.Ytnngepnfljkbhaa
open Go.RowKit
set_option linter.unusedVariables false
set_option linter.unusedSimpArgs false

/-- The marks' room, by the lengths. -/
theorem offL_plain {L L' : List Lay} (hp : L'.map Lay.plain = L.map Lay.plain) (n : Nat) : offL L' n ≤ lenL L n + 3 * (n : Int) := by
  induction n with
  | zero => simp [offL, lenL]
  | succ n ih =>
    have h := congrArg (fun l => l[n]?) hp
    simp only [List.getElem?_map] at h
    cases h1 : L'[n]? with
    | none => simp only [offL, lenL, h1]; cases h2 : L[n]? <;> simp <;> omega
    | some e' =>
      cases h2 : L[n]? with
      | none => rw [h1, h2] at h; simp at h
      | some e =>
        rw [h1, h2] at h
        have h3 : e'.x = e.x := by
          simp only [Option.map_some, Option.some.injEq, Lay.plain, Prod.mk.injEq] at h
          exact h.2.2.2
        simp only [offL, lenL, h1, h2, h3]
        push_cast
        omega
theorem plain_mem {L L' : List Lay} (hp : L'.map Lay.plain = L.map Lay.plain) {e : Lay} (he : e ∈ L') : ∃ f ∈ L, f.a = e.a ∧ f.b = e.b ∧ f.s = e.s ∧ f.x = e.x := by
  have h1 : e.plain ∈ L.map Lay.plain := hp ▸ List.mem_map_of_mem he
  obtain ⟨f, hf, hfe⟩ := List.mem_map.1 h1
  simp only [Lay.plain, Prod.mk.injEq] at hfe
  exact ⟨f, hf, hfe⟩
theorem OwnC.lts {w : World} {B : Nat} {A : Option Addr} {L : List Lay} (h : OwnC w B A L) : ∀ e ∈ L, 0 < e.x.length → ∀ g o, e.A = some ⟨g, o, none⟩ → g < w.heap.size := by
  intro e he hx g o hA
  obtain ⟨i, hi⟩ := List.getElem?_of_mem he
  obtain ⟨g', ex, hA', _, hb⟩ := h.own i e hi (List.ne_nil_of_length_pos hx)
  rw [hA'] at hA
  injection hA with hA; injection hA with hA
  subst hA
  exact hb.lt
theorem OwnC.ltb {w : World} {B : Nat} {A : Option Addr} {L : List Lay} (h : OwnC w B A L) (hn : L ≠ []) : ∀ g, A = some ⟨g, 0, none⟩ → g < w.heap.size := by
  intro g hA
  obtain ⟨g', ex, hA', _, hb⟩ := h.blk hn
  rw [hA'] at hA
  injection hA with hA; injection hA with hA
  subst hA
  exact hb.lt
/-- A slice of the call's own behind the bound. -/
theorem OwnS.upper {w w' : World} {B N : Nat} {t : TypeId} {A : Option Addr} {xs : List Int} (h : OwnS (Value.int .i64) w B t A xs) (hN : N ≤ B) (hu : ∀ b, N ≤ b → w'.heap[b]? = w.heap[b]?) : OwnS (Value.int .i64) w' B t A xs := fun hn => by
  obtain ⟨g, ex, rfl, hB, hb⟩ := h hn
  exact ⟨g, ex, rfl, hB, (hu g (by omega)).trans hb⟩
set_option maxRecDepth 100000 in
set_option maxHeartbeats 600000 in
theorem markCellsS_up (A : Option Addr) (c B N : Nat) (L : List Lay) (q : Int) (w : World) (hx : OwnC w B A L) (hn : L.length ≤ 1048576) (hl : ∀ e ∈ L, e.x.length ≤ 1048576) (hq0 : 0 ≤ q) (hq1 : q + offL L L.length ≤ 1000000000) (hB : B ≤ w.heap.size) (hN1 : L ≠ [] → ∀ g, A = some ⟨g, 0, none⟩ → g < N) (hN2 : ∀ e ∈ L, 0 < e.x.length → ∀ g o, e.A = some ⟨g, o, none⟩ → g < N) :
    Calls Try.prog 37 #[.slice A L.length c, .int .i64 q] w fun e w' => e = .returned (.int .i64 (q + offL L L.length)) ∧ OwnC w' B A (markT q L L.length) ∧ Below B w w' ∧ ∀ b, N ≤ b → w'.heap[b]? = w.heap[b]? := by
  have HN1 := hid hN1
  have HN2 := hid hN2
  clear hN1 hN2
  have HX := hid hx
  have HL := hid hl
  clear hx hl
  go_enter Try.func37, Try.ntmps37
  go_wp2
  go_loopw [1, 5] (fun t j wr => ∃ i : Nat, i ≤ L.length ∧ j = .int .i64 i ∧ t = .int .i64 (q + offL L i) ∧ Hid (OwnC wr B A (markT q L i)) ∧ Hid (Below B w wr) ∧ Hid (∀ b, N ≤ b → wr.heap[b]? = w.heap[b]?)) (fun _ j _ => L.length - (intOf j).toNat)
  case atStart => exact ⟨0, Nat.zero_le _, rfl, by simp [offL], by rw [markT_zero]; exact HX, Below.refl _ _, fun _ _ => rfl⟩
  case round =>
    obtain ⟨i, hi, rfl, rfl, hO, hW, hU⟩ := hrel
    by_cases hlt : i < L.length
    · have hil : (i : Int) < (L.length : Int) := by omega
      have hi0 : (0 : Int) ≤ (i : Int) := by omega
      obtain ⟨e, he⟩ : ∃ e, L[i]? = some e := ⟨_, List.getElem?_eq_getElem hlt⟩
      have HEN := hid (HN2.out e (List.mem_of_getElem? he))
      have hel := HL.out e (List.mem_of_getElem? he)
      have hoff := offL_succ he
      have hge := offL_ge L i
      have hmono : offL L (i + 1) ≤ offL L L.length := offL_mono L hlt
      have hme : (markT q L i)[i]? = some e := by rw [markT_at he, if_neg (by omega)]
      have hstep := hid (markT_step (q := q) he)
      obtain ⟨r, hr⟩ : ∃ r, r = q + offL L i := ⟨_, rfl⟩
      have hr0 : 0 ≤ r := by omega
      have hr1 : r + 3 + (e.x.length : Int) ≤ 1000000000 := by omega
      have hend : Hid (q + offL L (i + 1) = r + 3 + (e.x.length : Int)) := by show _ = _; omega
      rw [← hr] at hstep ⊢
      clear hr hoff hge hmono he
      obtain ⟨g, hA, hgB, c0, f0, o0⟩ := hO.out.put hme (j := 0) (by omega) (v := .int .i64 e.a) (u := .int .i64 r) (e' := { e with a := r }) rfl rfl rfl rfl
      subst hA
      have hm1 : ((markT q L i).set i { e with a := r })[i]? = some { e with a := r } := by rw [List.getElem?_set_self (by rw [markT_length]; exact hlt)]
      obtain ⟨g1, hg1, _, c1, f1, o1⟩ := o0.put hm1 (j := 1) (by omega) (v := .int .i64 e.b) (u := .int .i64 (r + 1)) (e' := { e with a := r, b := r + 1 }) rfl rfl rfl rfl
      injection hg1 with hg1; injection hg1 with hg1
      subst hg1
      rw [List.set_set] at o1
      have hm2 : ((markT q L i).set i { e with a := r, b := r + 1 })[i]? = some { e with a := r, b := r + 1 } := by rw [List.getElem?_set_self (by rw [markT_length]; exact hlt)]
      obtain ⟨g2, hg2, _, c2, f2, o2⟩ := o1.put hm2 (j := 2) (by omega) (v := .int .i64 e.s) (u := .int .i64 (r + 1 + 1)) (e' := { e with a := r, b := r + 1, s := r + 1 + 1 }) rfl rfl rfl rfl
      injection hg2 with hg2; injection hg2 with hg2
      subst hg2
      rw [List.set_set] at o2
      have hm3 : ((markT q L i).set i { e with a := r, b := r + 1, s := r + 1 + 1 })[i]? = some { e with a := r, b := r + 1, s := r + 1 + 1 } := by rw [List.getElem?_set_self (by rw [markT_length]; exact hlt)]
      obtain ⟨g3, hg3, _, c3, f3, _⟩ := o2.put hm3 (j := 3) (by omega) (v := .slice e.A e.x.length e.c) (u := .slice e.A e.x.length e.c) (e' := { e with a := r, b := r + 1, s := r + 1 + 1 }) rfl rfl rfl rfl
      injection hg3 with hg3; injection hg3 with hg3
      subst hg3
      have O2 := hid o2
      have M3 := hid hm3
      have hgN := HN1.out (List.ne_nil_of_length_pos (by omega)) g rfl
      have U2 : Hid (∀ b, N ≤ b → (((wr.setCell ⟨g, i * 4, none⟩ (.int .i64 r)).setCell ⟨g, i * 4 + 1, none⟩ (.int .i64 (r + 1))).setCell ⟨g, i * 4 + 2, none⟩ (.int .i64 (r + 1 + 1))).heap[b]? = w.heap[b]?) := fun b hb =>
        (Below.heap_setCell _ _ _ _ (by rintro rfl; exact absurd hgN (Nat.not_lt.2 hb))).trans ((Below.heap_setCell _ _ _ _ (by rintro rfl; exact absurd hgN (Nat.not_lt.2 hb))).trans ((Below.heap_setCell _ _ _ _ (by rintro rfl; exact absurd hgN (Nat.not_lt.2 hb))).trans (hU.out b hb)))
      have W2 := hid (((hW.out.setCell (p := ⟨g, i * 4, none⟩) hgB (.int .i64 r)).setCell (p := ⟨g, i * 4 + 1, none⟩) hgB (.int .i64 (r + 1))).setCell (p := ⟨g, i * 4 + 2, none⟩) hgB (.int .i64 (r + 1 + 1)))
      obtain ⟨g5', hg5', _, C0, F0, _⟩ := hO.out.put hme (j := 0) (by omega) (v := .int .i64 e.a) (u := .int .i64 e.a) (e' := e) rfl rfl rfl rfl
      injection hg5' with hg5'; injection hg5' with hg5'
      subst hg5'
      obtain ⟨g6', hg6', _, C1, F1, _⟩ := hO.out.put hme (j := 1) (by omega) (v := .int .i64 e.b) (u := .int .i64 e.b) (e' := e) rfl rfl rfl rfl
      injection hg6' with hg6'; injection hg6' with hg6'
      subst hg6'
      obtain ⟨g7', hg7', _, C2, F2, _⟩ := hO.out.put hme (j := 2) (by omega) (v := .int .i64 e.s) (u := .int .i64 e.s) (e' := e) rfl rfl rfl rfl
      injection hg7' with hg7'; injection hg7' with hg7'
      subst hg7'
      obtain ⟨g8', hg8', _, C3, F3, _⟩ := hO.out.put hme (j := 3) (by omega) (v := .slice e.A e.x.length e.c) (u := .slice e.A e.x.length e.c) (e' := e) rfl rfl rfl rfl
      injection hg8' with hg8'; injection hg8' with hg8'
      subst hg8'
      rw [Nat.add_zero] at C0 F0 O2
      clear hO o0 o1 o2 hm1 hm2 hm3 hme c0 c1 c2 c3 f0 f1 f2 f3
      have O4 := hid (O2.out.own i _ M3.out)
      have hel2 : e.x.length ≤ 1048576 := hel
      go_wp2_with (go_at_call 60; refine (markInt64S_any e.A e.c B e.x (r + 1 + 1 + 1) _ O4.out hel2 (by omega) (by omega)).mono ?_; rintro en w3 ⟨rfl, ho, ht⟩)
      have O5 := hid (O2.out.counts M3.out ht (e' := e.mark r) ho (by simp [Lay.cells, Lay.mark, marks_length]) rfl (by simp [Lay.mark, marks_length]))
      have W5 := hid (W2.out.trans (ht.below O4.out))
      have U5 : Hid (∀ b, N ≤ b → w3.heap[b]? = w.heap[b]?) := fun b hb => (ht.block b (by
        rcases Nat.eq_zero_or_pos e.x.length with h0 | h0
        · exact .inl h0
        · exact .inr fun o he => absurd (HEN.out h0 b o he) (Nat.not_lt.2 hb))).trans (U2.out b hb)
      have O6 : Hid (OwnC w3 B (some ⟨g, 0, none⟩) (markT q L (i + 1))) := by
        have h := O5.out
        rw [List.set_set, hstep.out] at h
        exact h
      exact ⟨⟨i + 1, by omega, by go_num, by rw [hend.out]; congr 1; omega, O6, W5, U5⟩, by simp [intOf]; omega⟩
    · have hil : ¬ (i : Int) < (L.length : Int) := by omega
      obtain rfl : i = L.length := by omega
      go_wp2
      go_ret
      exact ⟨rfl, hO.out, hW.out, hU.out⟩
end Go.Proofs.Ytnngepnfljkbhaa
