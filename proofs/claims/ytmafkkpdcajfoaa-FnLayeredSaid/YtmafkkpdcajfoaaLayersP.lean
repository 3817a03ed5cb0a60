/-
  Whether a slice of cells are layers: l03Layers, areLayers, by contracts. Printed by gen_layers.py.
-/
import Derived.Test.YtmafkkpdcajfoaaLayCopy
import Derived.Test.YtmafkkpdcajfoaaNewLayers
import Derived.Test.YtmafkkpdcajfoaaCellsO
namespace Go.Proofs.Ytmafkkpdcajfoaa
open Go.RowKit
set_option linter.unusedVariables false
set_option linter.unusedSimpArgs false

/-- Layer j is good; p: the first one. -/
def okP (p q : Int × Int × Int × List Int) (j : Nat) : Bool := vCells q.1 q.2.1 q.2.2.1 q.2.2.2 && (q.1 == p.1) && (q.2.1 == p.2.1) && (q.2.2.1 == (p.2.2.1 + 100 * (j : Int)) % 4294967296)
def okG (P : List (Int × Int × Int × List Int)) (j : Nat) : Bool := match P[0]?, P[j]? with | some p, some q => okP p q j | _, _ => false
/-- They are layers. -/
def vLayP (P : List (Int × Int × Int × List Int)) : Bool := (P.length == 8) && (List.range 8).all (okG P)
theorem allr_snoc {f : Nat → Bool} {i : Nat} (h : Hid ((List.range i).all f = true)) (hf : f i = true) : (List.range (i + 1)).all f = true := by
  rw [List.range_succ, List.all_append, h.out]; simp [hf]
theorem allr_no {f : Nat → Bool} {i n : Nat} (hi : i < n) (hf : f i = false) : (List.range n).all f = false := by
  rw [Bool.eq_false_iff]
  intro h
  rw [List.all_eq_true] at h
  have := h i (List.mem_range.2 hi)
  rw [hf] at this; cases this
theorem okG_at {L : List Lay} {j : Nat} {f e : Lay} (h0 : L[0]? = some f) (hj : L[j]? = some e) : okG (L.map Lay.plain) j = (vCells e.a e.b e.s e.x && (e.a == f.a) && (e.b == f.b) && (e.s == (f.s + 100 * (j : Int)) % 4294967296)) := by
  simp [okG, List.getElem?_map, h0, hj, okP, Lay.plain]
theorem vLayP_iff {L : List Lay} (h : vLayP (L.map Lay.plain) = true) : L.length = 8 ∧ ∃ f, L[0]? = some f ∧ ∀ (j : Nat) (e : Lay), L[j]? = some e → vCells e.a e.b e.s e.x = true ∧ e.a = f.a ∧ e.b = f.b := by
  simp only [vLayP, Bool.and_eq_true, beq_iff_eq, List.length_map, List.all_eq_true, List.mem_range] at h
  obtain ⟨h1, h2⟩ := h
  obtain ⟨f, hf⟩ : ∃ f, L[0]? = some f := ⟨_, List.getElem?_eq_getElem (by omega)⟩
  refine ⟨h1, f, hf, fun j e he => ?_⟩
  have hj : j < 8 := by have := (List.getElem?_eq_some_iff.1 he).1; omega
  have h3 := h2 j hj
  rw [okG_at hf he] at h3
  simp only [Bool.and_eq_true, beq_iff_eq] at h3
  exact ⟨h3.1.1.1, h3.1.1.2, h3.1.2⟩
theorem len8_no {L : List Lay} (h : ¬ L.length = 8) : vLayP (L.map Lay.plain) = false := by
  unfold vLayP
  rw [List.length_map, beq_eq_false_iff_ne.2 h]; rfl
theorem len8_yes {L : List Lay} (h : L.length = 8) : vLayP (L.map Lay.plain) = (List.range 8).all (okG (L.map Lay.plain)) := by
  unfold vLayP
  rw [List.length_map, beq_iff_eq.2 h]; rfl
/-- The integers of a slice of cells are of 64 bits. -/
def W64L (L : List Lay) : Prop := ∀ e ∈ L, W64 e.a ∧ W64 e.b ∧ W64 e.s ∧ ∀ y ∈ e.x, W64 y
theorem bne_of {a b : Int} {v : Bool} (h : (a == b) = v) : (a != b) = !v := by unfold bne; rw [h]
set_option maxRecDepth 100000 in
set_option maxHeartbeats 3200000 in
theorem l03Layers_any (A : Option Addr) (c : Nat) (L : List Lay) (w : World) (hx : RdC w A L) (hn : L.length ≤ 1048576) (hl : ∀ e ∈ L, e.x.length ≤ 1048576) :
    Calls Try.prog 29 #[.slice A L.length c] w fun e w' => e = .returned (.bool (vLayP (L.map Lay.plain))) ∧ ∃ n, w' = w.drewN n := by
  have HX := hid hx
  have HL := hid hl
  clear hx hl
  by_cases h8 : L.length = 8
  case neg =>
    have hv := hid (len8_no h8)
    have h8n : ((L.length : Int) != 8) = true := bne_of (beq_eq_false_iff_ne.2 (by omega))
    clear h8
    go_enter Try.func29, Try.ntmps29
    go_wp2
    go_ret
    exact ⟨ret_bool hv.out.symm, 0, rfl⟩
  have hv := hid (len8_yes h8)
  have H8 := hid h8
  obtain ⟨f, hf⟩ : ∃ f, L[0]? = some f := ⟨_, List.getElem?_eq_getElem (by omega)⟩
  have HF := hid hf
  rw [h8]
  clear h8 hf
  go_enter Try.func29, Try.ntmps29
  go_wp2
  go_loopw [10] (fun j wr => ∃ i n : Nat, i ≤ 8 ∧ j = .int .i64 i ∧ wr = w.drewN n ∧ Hid ((List.range i).all (okG (L.map Lay.plain)) = true)) (fun j _ => 8 - (intOf j).toNat)
  case atStart => exact ⟨0, 0, Nat.zero_le _, rfl, rfl, rfl⟩
  case round =>
    obtain ⟨i, n, hi8, rfl, rfl, hh⟩ := hrel
    by_cases hlt : i < 8
    · have hi : (i : Int) < 8 := by omega
      have hi0 : (0 : Int) ≤ (i : Int) := by omega
      obtain ⟨e, he⟩ : ∃ e, L[i]? = some e := ⟨_, List.getElem?_eq_getElem (by have := H8.out; omega)⟩
      have hel := HL.out e (List.mem_of_getElem? he)
      have hok := hid (okG_at HF.out he)
      have hf0 : Hid (vCells e.a e.b e.s e.x = true → vCells f.a f.b f.s f.x = true) := fun hve => by
        rcases (show i = 0 ∨ 0 < i by omega) with rfl | h0
        · have h1 := HF.out
          rw [he] at h1; injection h1 with h1; subst h1; exact hve
        · have h1 := hh.out
          rw [List.all_eq_true] at h1
          have h2 := h1 0 (List.mem_range.2 h0)
          rw [okG_at HF.out HF.out] at h2
          simp only [Bool.and_eq_true] at h2
          exact h2.1.1.1
      obtain ⟨⟨g, o, rfl, a0, a1, a2, a3⟩, hrd⟩ := HX.out i e he
      obtain ⟨⟨g', o', hA', b0, b1, b2, b3⟩, _⟩ := HX.out 0 f HF.out
      injection hA' with hA'; injection hA' with q1 q2
      subst q1 q2
      rw [Nat.zero_mul, Nat.add_zero] at b0 b1 b2
      have RD := hid hrd
      clear hrd b3 he
      cases b1 : vCells e.a e.b e.s e.x with
      | false =>
        have hff := hid (allr_no (f := okG (L.map Lay.plain)) hlt (by rw [hok.out, b1]; simp))
        have B1 := hid b1
        have C1 : Hid (∀ n, Calls Try.prog 47 #[.pointer (some ⟨g, o + i * 4, none⟩)] (w.drewN n) fun en w' => en = .returned (.bool false) ∧ ∃ q, w' = (w.drewN n).drewN q) := fun n => b1 ▸ l03Is_off g (o + i * 4) e.c e.A e.a e.b e.s e.x _ a0 a1 a2 a3 (RD.out.drewN n) hel
        go_wp2
        go_quiet ((go_at_call 47; exact quiet_moreN (C1.out _)))
        go_wp2
        go_ret
        exact ⟨ret_bool (by rw [hv.out, hff.out]), n + nq, by first | rfl | rw [World.drewN_drewN]⟩
      | true =>
      cases b2 : (e.a == f.a) with
      | false =>
        have hff := hid (allr_no (f := okG (L.map Lay.plain)) hlt (by rw [hok.out, b1, b2]; simp))
        have n1 := bne_of b2
        have B1 := hid b1
        have C1 : Hid (∀ n, Calls Try.prog 47 #[.pointer (some ⟨g, o + i * 4, none⟩)] (w.drewN n) fun en w' => en = .returned (.bool true) ∧ ∃ q, w' = (w.drewN n).drewN q) := fun n => b1 ▸ l03Is_off g (o + i * 4) e.c e.A e.a e.b e.s e.x _ a0 a1 a2 a3 (RD.out.drewN n) hel
        go_wp2
        go_quiet ((go_at_call 47; exact quiet_moreN (C1.out _)))
        go_wp2
        go_ret
        exact ⟨ret_bool (by rw [hv.out, hff.out]), n + nq, by first | rfl | rw [World.drewN_drewN]⟩
      | true =>
      have n1 := bne_of b2
      cases b3 : (e.b == f.b) with
      | false =>
        have hff := hid (allr_no (f := okG (L.map Lay.plain)) hlt (by rw [hok.out, b1, b2, b3]; simp))
        have n2 := bne_of b3
        have B1 := hid b1
        have C1 : Hid (∀ n, Calls Try.prog 47 #[.pointer (some ⟨g, o + i * 4, none⟩)] (w.drewN n) fun en w' => en = .returned (.bool true) ∧ ∃ q, w' = (w.drewN n).drewN q) := fun n => b1 ▸ l03Is_off g (o + i * 4) e.c e.A e.a e.b e.s e.x _ a0 a1 a2 a3 (RD.out.drewN n) hel
        go_wp2
        go_quiet ((go_at_call 47; exact quiet_moreN (C1.out _)))
        go_wp2
        go_ret
        exact ⟨ret_bool (by rw [hv.out, hff.out]), n + nq, by first | rfl | rw [World.drewN_drewN]⟩
      | true =>
      have n2 := bne_of b3
      have hfv := vCells_iff (hf0.out b1)
      have hs0 : 0 ≤ f.s := hfv.2.2.1.1
      have hs1 : f.s ≤ 4294967295 := hfv.2.2.1.2
      clear hfv
      have w1 : IntKind.i64.wrap (100 * (i : Int)) = 100 * (i : Int) := by rw [IntKind.wrap_i64]; omega
      have w2 : IntKind.i64.wrap (f.s + 100 * (i : Int)) = f.s + 100 * (i : Int) := by rw [IntKind.wrap_i64]; omega
      cases b4 : (e.s == (f.s + 100 * (i : Int)) % 4294967296) with
      | false =>
        have hff := hid (allr_no (f := okG (L.map Lay.plain)) hlt (by rw [hok.out, b1, b2, b3, b4]; simp))
        have n3 := bne_of b4
        have B1 := hid b1
        have C1 : Hid (∀ n, Calls Try.prog 47 #[.pointer (some ⟨g, o + i * 4, none⟩)] (w.drewN n) fun en w' => en = .returned (.bool true) ∧ ∃ q, w' = (w.drewN n).drewN q) := fun n => b1 ▸ l03Is_off g (o + i * 4) e.c e.A e.a e.b e.s e.x _ a0 a1 a2 a3 (RD.out.drewN n) hel
        go_wp2
        go_quiet ((go_at_call 47; exact quiet_moreN (C1.out _)))
        go_wp2
        go_ret
        exact ⟨ret_bool (by rw [hv.out, hff.out]), n + nq, by first | rfl | rw [World.drewN_drewN]⟩
      | true =>
      have n3 := bne_of b4
      have hff := hid (allr_snoc (f := okG (L.map Lay.plain)) hh (by rw [hok.out, b1, b2, b3, b4]; rfl))
      have C1 : Hid (∀ n, Calls Try.prog 47 #[.pointer (some ⟨g, o + i * 4, none⟩)] (w.drewN n) fun en w' => en = .returned (.bool true) ∧ ∃ q, w' = (w.drewN n).drewN q) := fun n => b1 ▸ l03Is_off g (o + i * 4) e.c e.A e.a e.b e.s e.x _ a0 a1 a2 a3 (RD.out.drewN n) hel
      go_wp2
      go_quiet ((go_at_call 47; exact quiet_moreN (C1.out _)))
      go_wp2
      exact ⟨⟨i + 1, n + nq, by omega, by go_num, by first | rfl | rw [World.drewN_drewN], hff⟩, by simp [intOf]; omega⟩
    · have hi : ¬ (i : Int) < 8 := by omega
      obtain rfl : i = 8 := by omega
      go_wp2
      go_ret
      exact ⟨ret_bool (by rw [hv.out, hh.out]), n, rfl⟩
end Go.Proofs.Ytmafkkpdcajfoaa
