/-
  Whether a slice of cells are layers: areLayers, by contract. Printed by gen_layers.py.
-/
import Derived.Test.YtmafkkpdcajfoaaLayersP
import Derived.Test.YtmafkkpdcajfoaaValidG
namespace Go.Proofs.Ytmafkkpdcajfoaa
open Go.RowKit
set_option linter.unusedVariables false
set_option linter.unusedSimpArgs false

/-- The lexical walk behind a variable: what looks for a '∀' under its name would run it. -/
theorem quiet_var (P : Program) : ∃ W : Array Oper → (World → Prop) → (Act → Prop) → List Oper → Act → Prop, W = wpQuiet P ∧ Hid (∀ ops C Q a, Q a → W ops C Q [] a) ∧
    Hid (∀ ops C Q a o rest, (∀ K : Act → Prop, (∀ a, W ops C Q rest a → K a) → if Region.wanted o (yielded ops a.tmps) then o.quiet P a C K else K (a.put o.dst undef)) → W ops C Q (o :: rest) a) :=
  ⟨_, rfl, fun _ _ _ _ h => wpQuiet_nil h, fun _ _ _ _ _ _ h => wpQuiet_step h⟩

set_option maxRecDepth 100000 in
set_option maxHeartbeats 3200000 in
theorem areLayers_any (A : Option Addr) (c : Nat) (L : List Lay) (w : World) (hx : RdC w A L) (hn : L.length ≤ 1048576) (hl : ∀ e ∈ L, e.x.length ≤ 1048576) (hw : W64L L) :
    Calls Try.prog 26 #[.slice A L.length c] w fun e w' => e = .returned (.bool (vLayP (L.map Lay.plain))) ∧ Below w.heap.size w w' := by
  have HX := hid hx
  have HL := hid hl
  have HW := hid hw
  clear hx hl hw
  by_cases h8 : L.length = 8
  case neg =>
    have hv := hid (len8_no h8)
    have h8n : ((L.length : Int) != 8) = true := bne_of (beq_eq_false_iff_ne.2 (by omega))
    clear h8
    go_enter Try.func26, Try.ntmps26
    go_wp2
    go_ret
    exact ⟨ret_bool hv.out.symm, Below.refl _ _⟩
  have hv := hid (len8_yes h8)
  have H8 := hid h8
  obtain ⟨f, hf⟩ : ∃ f, L[0]? = some f := ⟨_, List.getElem?_eq_getElem (by omega)⟩
  have HF := hid hf
  have mixed : Try.prog.follows .mixedOrders = true := by kernel_rfl
  rw [h8]
  clear h8
  obtain ⟨⟨g, o, rfl, b0, b1, b2, b3⟩, _⟩ := HX.out 0 f hf
  rw [Nat.zero_mul, Nat.add_zero] at b0 b1 b2 b3
  have BF := hid (Blk.new w 46 [.int .i64 f.a, .int .i64 f.b, .int .i64 f.s, .slice f.A f.x.length f.c])
  clear hf
  go_enter Try.func26, Try.ntmps26
  go_wp2
  clear b0 b1 b2 b3
  go_loopw [14] (fun j wr => ∃ i : Nat, i ≤ 8 ∧ j = .int .i64 i ∧ Hid ((List.range i).all (okG (L.map Lay.plain)) = true) ∧ Hid (Blk wr w.heap.size 46 [.int .i64 f.a, .int .i64 f.b, .int .i64 f.s, .slice f.A f.x.length f.c]) ∧ Hid (Below w.heap.size w wr)) (fun j _ => 8 - (intOf j).toNat)
  case atStart => exact ⟨0, Nat.zero_le _, rfl, rfl, BF, below_a1 _ _⟩
  case round =>
    obtain ⟨i, hi8, rfl, hh, hB, hW⟩ := hrel
    by_cases hlt : i < 8
    · have hi : (i : Int) < 8 := by omega
      have hi0 : (0 : Int) ≤ (i : Int) := by omega
      obtain ⟨e, he⟩ : ∃ e, L[i]? = some e := ⟨_, List.getElem?_eq_getElem (by have := H8.out; omega)⟩
      have hel := HL.out e (List.mem_of_getElem? he)
      have HWE := hid (HW.out e (List.mem_of_getElem? he))
      have hok := hid (okG_at HF.out he)
      have hf0 : Hid (vCells e.a e.b e.s e.x = true → vCells f.a f.b f.s f.x = true) := fun hve => by
        rcases (show i = 0 ∨ 0 < i by omega) with rfl | h0
        · have h1 := HF.out
          rw [he] at h1; injection h1 with h1; subst h1; exact hve
        · have h1 := hh.out
          rw [List.all_eq_true] at h1
          have h2 := h1 0 (List.mem_range.2 h0)
          rw [okG_at HF.out HF.out] at h2
          simp only [Bool.and_eq_true] at h2
          exact h2.1.1.1
      obtain ⟨⟨g', o', hA', a0, a1, a2, a3⟩, hrd⟩ := (HX.out.below hW.out) i e he
      injection hA' with hA'; injection hA' with q1 q2
      subst q1 q2
      have RD := hid (hrd.below (below_a1 wr (.cells #[.int .i64 e.a, .int .i64 e.b, .int .i64 e.s, .slice e.A e.x.length e.c] 46)))
      have BE := hid (Blk.new wr 46 [.int .i64 e.a, .int .i64 e.b, .int .i64 e.s, .slice e.A e.x.length e.c])
      have BF1 := hid (hB.out.alloc (.cells #[.int .i64 e.a, .int .i64 e.b, .int .i64 e.s, .slice e.A e.x.length e.c] 46))
      have W1 := hid (hW.out.alloc hW.out.size (.cells #[.int .i64 e.a, .int .i64 e.b, .int .i64 e.s, .slice e.A e.x.length e.c] 46))
      have hlr : w.heap.size < wr.heap.size := hB.out.lt
      clear hrd he
      have C2 : Hid (∀ w' : World, True) := fun _ => trivial
      cases b1 : vCells e.a e.b e.s e.x with
      | false =>
        have hff := hid (allr_no (f := okG (L.map Lay.plain)) hlt (by rw [hok.out, b1]; simp))
        go_wp2
        obtain ⟨wB, hwB⟩ : ∃ q, q = wr.alloc (.cells #[.int .i64 e.a, .int .i64 e.b, .int .i64 e.s, .slice e.A e.x.length e.c] 46) := ⟨_, rfl⟩
        rw [← hwB]
        have hwz : w.heap.size < wB.heap.size := by rw [hwB]; simp; omega
        have hwz2 : wr.heap.size < wB.heap.size := by rw [hwB]; simp
        have FB := hid (hwB ▸ BF1.out)
        have EB := hid (hwB ▸ BE.out)
        have RB := hid (hwB ▸ RD.out)
        have WB := hid (hwB ▸ W1.out)
        clear hwB
        obtain ⟨x0, x1, x2, x3⟩ := FB.out.cells4
        have x0' := fun (n : Nat) (os : Array Obj) => cell_grown (w := wB) (a := ⟨w.heap.size, 0, none⟩) (by assumption) x0 n os
        have x1' := fun (n : Nat) (os : Array Obj) => cell_grown (w := wB) (a := ⟨w.heap.size, 1, none⟩) (by assumption) x1 n os
        have x2' := fun (n : Nat) (os : Array Obj) => cell_grown (w := wB) (a := ⟨w.heap.size, 2, none⟩) (by assumption) x2 n os
        have x3' := fun (n : Nat) (os : Array Obj) => cell_grown (w := wB) (a := ⟨w.heap.size, 3, none⟩) (by assumption) x3 n os
        clear x0 x1 x2 x3
        obtain ⟨y0, y1, y2, y3⟩ := EB.out.cells4
        have y0' := fun (n : Nat) (os : Array Obj) => cell_grown (w := wB) (a := ⟨wr.heap.size, 0, none⟩) (by assumption) y0 n os
        have y1' := fun (n : Nat) (os : Array Obj) => cell_grown (w := wB) (a := ⟨wr.heap.size, 1, none⟩) (by assumption) y1 n os
        have y2' := fun (n : Nat) (os : Array Obj) => cell_grown (w := wB) (a := ⟨wr.heap.size, 2, none⟩) (by assumption) y2 n os
        have y3' := fun (n : Nat) (os : Array Obj) => cell_grown (w := wB) (a := ⟨wr.heap.size, 3, none⟩) (by assumption) y3 n os
        clear y0 y1 y2 y3
        have ld := fun (n : Nat) (os : Array Obj) => load4 Try.prog (Sort.grow (wB.drewN n) os) wr.heap.size _ _ _ _ (y0' n os) (y1' n os) (y2' n os) (y3' n os)
        have C1 : Hid (∀ (n : Nat) (os : Array Obj), Calls Try.prog 44 #[.agg #[.int .i64 e.a, .int .i64 e.b, .int .i64 e.s, .slice e.A e.x.length e.c]] (Sort.grow (wB.drewN n) os) fun en w' => en = .returned (.bool false) ∧ ∃ q os', w' = Sort.grow ((Sort.grow (wB.drewN n) os).drewN q) os') := fun n os => by
          have h := iValidCells_gr e.a e.b e.s e.A e.c e.x (Sort.grow (wB.drewN n) os) HWE.out.1 HWE.out.2.1 HWE.out.2.2.1 (RB.out.below (below_grow wB n os)) hel HWE.out.2.2.2
          rw [b1] at h
          exact h.mono fun _ _ ⟨h1, os', h2⟩ => ⟨h1, 0, os', h2⟩
        obtain ⟨WQ, hWQ, hNIL, hSTEP⟩ := quiet_var Try.prog
        refine wp_region_quiet_grown (by assumption) (by kernel_rfl) ?_
        rw [← hWQ]
        repeat (refine hSTEP.out _ _ _ _ _ _ (fun K hK => ?_); go_simp; first | (refine hK _ ?_; clear hK K) | (apply Exists.intro; refine ⟨fun _ => ?_, hK _ ?_⟩; (first | (go_at_call 44; exact Calls.grown_of (C1.out _ _)) | (go_at_call 25; exact Calls.grown_of ((C2.out _).mono fun _ _ ⟨h1, h2⟩ => ⟨h1, 0, #[], by rw [Sort.grow_empty]; exact h2.symm⟩))); clear hK K))
        refine hNIL.out _ _ _ _ ?_
        clear hWQ hNIL hSTEP
        intro _ hw'
        obtain ⟨⟨nq, osq⟩, hw''⟩ := hw'
        subst hw''
        clear ld x0' x1' x2' x3' y0' y1' y2' y3'
        have W2 := hid (WB.out.trans ((below_grow wB nq osq).mono WB.out.size))
        have BF2 := hid (FB.out.below (below_grow wB nq osq))
        go_wp2
        go_ret
        exact ⟨ret_bool (by rw [hv.out, hff.out]), W2.out⟩
      | true =>
      cases b2 : (e.a == f.a) with
      | false =>
        have hff := hid (allr_no (f := okG (L.map Lay.plain)) hlt (by rw [hok.out, b1, b2]; simp))
        have n1 := bne_of b2
        go_wp2
        obtain ⟨wB, hwB⟩ : ∃ q, q = wr.alloc (.cells #[.int .i64 e.a, .int .i64 e.b, .int .i64 e.s, .slice e.A e.x.length e.c] 46) := ⟨_, rfl⟩
        rw [← hwB]
        have hwz : w.heap.size < wB.heap.size := by rw [hwB]; simp; omega
        have hwz2 : wr.heap.size < wB.heap.size := by rw [hwB]; simp
        have FB := hid (hwB ▸ BF1.out)
        have EB := hid (hwB ▸ BE.out)
        have RB := hid (hwB ▸ RD.out)
        have WB := hid (hwB ▸ W1.out)
        clear hwB
        obtain ⟨x0, x1, x2, x3⟩ := FB.out.cells4
        have x0' := fun (n : Nat) (os : Array Obj) => cell_grown (w := wB) (a := ⟨w.heap.size, 0, none⟩) (by assumption) x0 n os
        have x1' := fun (n : Nat) (os : Array Obj) => cell_grown (w := wB) (a := ⟨w.heap.size, 1, none⟩) (by assumption) x1 n os
        have x2' := fun (n : Nat) (os : Array Obj) => cell_grown (w := wB) (a := ⟨w.heap.size, 2, none⟩) (by assumption) x2 n os
        have x3' := fun (n : Nat) (os : Array Obj) => cell_grown (w := wB) (a := ⟨w.heap.size, 3, none⟩) (by assumption) x3 n os
        clear x0 x1 x2 x3
        obtain ⟨y0, y1, y2, y3⟩ := EB.out.cells4
        have y0' := fun (n : Nat) (os : Array Obj) => cell_grown (w := wB) (a := ⟨wr.heap.size, 0, none⟩) (by assumption) y0 n os
        have y1' := fun (n : Nat) (os : Array Obj) => cell_grown (w := wB) (a := ⟨wr.heap.size, 1, none⟩) (by assumption) y1 n os
        have y2' := fun (n : Nat) (os : Array Obj) => cell_grown (w := wB) (a := ⟨wr.heap.size, 2, none⟩) (by assumption) y2 n os
        have y3' := fun (n : Nat) (os : Array Obj) => cell_grown (w := wB) (a := ⟨wr.heap.size, 3, none⟩) (by assumption) y3 n os
        clear y0 y1 y2 y3
        have ld := fun (n : Nat) (os : Array Obj) => load4 Try.prog (Sort.grow (wB.drewN n) os) wr.heap.size _ _ _ _ (y0' n os) (y1' n os) (y2' n os) (y3' n os)
        have C1 : Hid (∀ (n : Nat) (os : Array Obj), Calls Try.prog 44 #[.agg #[.int .i64 e.a, .int .i64 e.b, .int .i64 e.s, .slice e.A e.x.length e.c]] (Sort.grow (wB.drewN n) os) fun en w' => en = .returned (.bool true) ∧ ∃ q os', w' = Sort.grow ((Sort.grow (wB.drewN n) os).drewN q) os') := fun n os => by
          have h := iValidCells_gr e.a e.b e.s e.A e.c e.x (Sort.grow (wB.drewN n) os) HWE.out.1 HWE.out.2.1 HWE.out.2.2.1 (RB.out.below (below_grow wB n os)) hel HWE.out.2.2.2
          rw [b1] at h
          exact h.mono fun _ _ ⟨h1, os', h2⟩ => ⟨h1, 0, os', h2⟩
        obtain ⟨WQ, hWQ, hNIL, hSTEP⟩ := quiet_var Try.prog
        refine wp_region_quiet_grown (by assumption) (by kernel_rfl) ?_
        rw [← hWQ]
        repeat (refine hSTEP.out _ _ _ _ _ _ (fun K hK => ?_); go_simp; first | (refine hK _ ?_; clear hK K) | (apply Exists.intro; refine ⟨fun _ => ?_, hK _ ?_⟩; (first | (go_at_call 44; exact Calls.grown_of (C1.out _ _)) | (go_at_call 25; exact Calls.grown_of ((C2.out _).mono fun _ _ ⟨h1, h2⟩ => ⟨h1, 0, #[], by rw [Sort.grow_empty]; exact h2.symm⟩))); clear hK K))
        refine hNIL.out _ _ _ _ ?_
        clear hWQ hNIL hSTEP
        intro _ hw'
        obtain ⟨⟨nq, osq⟩, hw''⟩ := hw'
        subst hw''
        clear ld x0' x1' x2' x3' y0' y1' y2' y3'
        have W2 := hid (WB.out.trans ((below_grow wB nq osq).mono WB.out.size))
        have BF2 := hid (FB.out.below (below_grow wB nq osq))
        go_wp2
        go_ret
        exact ⟨ret_bool (by rw [hv.out, hff.out]), W2.out⟩
      | true =>
      have n1 := bne_of b2
      cases b3 : (e.b == f.b) with
      | false =>
        have hff := hid (allr_no (f := okG (L.map Lay.plain)) hlt (by rw [hok.out, b1, b2, b3]; simp))
        have n2 := bne_of b3
        go_wp2
        obtain ⟨wB, hwB⟩ : ∃ q, q = wr.alloc (.cells #[.int .i64 e.a, .int .i64 e.b, .int .i64 e.s, .slice e.A e.x.length e.c] 46) := ⟨_, rfl⟩
        rw [← hwB]
        have hwz : w.heap.size < wB.heap.size := by rw [hwB]; simp; omega
        have hwz2 : wr.heap.size < wB.heap.size := by rw [hwB]; simp
        have FB := hid (hwB ▸ BF1.out)
        have EB := hid (hwB ▸ BE.out)
        have RB := hid (hwB ▸ RD.out)
        have WB := hid (hwB ▸ W1.out)
        clear hwB
        obtain ⟨x0, x1, x2, x3⟩ := FB.out.cells4
        have x0' := fun (n : Nat) (os : Array Obj) => cell_grown (w := wB) (a := ⟨w.heap.size, 0, none⟩) (by assumption) x0 n os
        have x1' := fun (n : Nat) (os : Array Obj) => cell_grown (w := wB) (a := ⟨w.heap.size, 1, none⟩) (by assumption) x1 n os
        have x2' := fun (n : Nat) (os : Array Obj) => cell_grown (w := wB) (a := ⟨w.heap.size, 2, none⟩) (by assumption) x2 n os
        have x3' := fun (n : Nat) (os : Array Obj) => cell_grown (w := wB) (a := ⟨w.heap.size, 3, none⟩) (by assumption) x3 n os
        clear x0 x1 x2 x3
        obtain ⟨y0, y1, y2, y3⟩ := EB.out.cells4
        have y0' := fun (n : Nat) (os : Array Obj) => cell_grown (w := wB) (a := ⟨wr.heap.size, 0, none⟩) (by assumption) y0 n os
        have y1' := fun (n : Nat) (os : Array Obj) => cell_grown (w := wB) (a := ⟨wr.heap.size, 1, none⟩) (by assumption) y1 n os
        have y2' := fun (n : Nat) (os : Array Obj) => cell_grown (w := wB) (a := ⟨wr.heap.size, 2, none⟩) (by assumption) y2 n os
        have y3' := fun (n : Nat) (os : Array Obj) => cell_grown (w := wB) (a := ⟨wr.heap.size, 3, none⟩) (by assumption) y3 n os
        clear y0 y1 y2 y3
        have ld := fun (n : Nat) (os : Array Obj) => load4 Try.prog (Sort.grow (wB.drewN n) os) wr.heap.size _ _ _ _ (y0' n os) (y1' n os) (y2' n os) (y3' n os)
        have C1 : Hid (∀ (n : Nat) (os : Array Obj), Calls Try.prog 44 #[.agg #[.int .i64 e.a, .int .i64 e.b, .int .i64 e.s, .slice e.A e.x.length e.c]] (Sort.grow (wB.drewN n) os) fun en w' => en = .returned (.bool true) ∧ ∃ q os', w' = Sort.grow ((Sort.grow (wB.drewN n) os).drewN q) os') := fun n os => by
          have h := iValidCells_gr e.a e.b e.s e.A e.c e.x (Sort.grow (wB.drewN n) os) HWE.out.1 HWE.out.2.1 HWE.out.2.2.1 (RB.out.below (below_grow wB n os)) hel HWE.out.2.2.2
          rw [b1] at h
          exact h.mono fun _ _ ⟨h1, os', h2⟩ => ⟨h1, 0, os', h2⟩
        obtain ⟨WQ, hWQ, hNIL, hSTEP⟩ := quiet_var Try.prog
        refine wp_region_quiet_grown (by assumption) (by kernel_rfl) ?_
        rw [← hWQ]
        repeat (refine hSTEP.out _ _ _ _ _ _ (fun K hK => ?_); go_simp; first | (refine hK _ ?_; clear hK K) | (apply Exists.intro; refine ⟨fun _ => ?_, hK _ ?_⟩; (first | (go_at_call 44; exact Calls.grown_of (C1.out _ _)) | (go_at_call 25; exact Calls.grown_of ((C2.out _).mono fun _ _ ⟨h1, h2⟩ => ⟨h1, 0, #[], by rw [Sort.grow_empty]; exact h2.symm⟩))); clear hK K))
        refine hNIL.out _ _ _ _ ?_
        clear hWQ hNIL hSTEP
        intro _ hw'
        obtain ⟨⟨nq, osq⟩, hw''⟩ := hw'
        subst hw''
        clear ld x0' x1' x2' x3' y0' y1' y2' y3'
        have W2 := hid (WB.out.trans ((below_grow wB nq osq).mono WB.out.size))
        have BF2 := hid (FB.out.below (below_grow wB nq osq))
        go_wp2
        go_ret
        exact ⟨ret_bool (by rw [hv.out, hff.out]), W2.out⟩
      | true =>
      have n2 := bne_of b3
      have hfv := vCells_iff (hf0.out b1)
      have hs0 : 0 ≤ f.s := hfv.2.2.1.1
      have hs1 : f.s ≤ 4294967295 := hfv.2.2.1.2
      clear hfv
      have w1 : IntKind.i64.wrap (100 * (i : Int)) = 100 * (i : Int) := by rw [IntKind.wrap_i64]; omega
      have C2 : Hid (∀ w', Calls Try.prog 25 #[.int .i64 f.s, .int .i64 (100 * (i : Int))] w' fun en w'' => en = .returned (.int .i64 ((f.s + 100 * (i : Int)) % 4294967296)) ∧ w' = w'') := fun w' => by
        obtain ⟨sn, hsn⟩ := Int.eq_ofNat_of_zero_le hs0
        rw [hsn]
        exact salted_z sn _ w' (by omega) (by omega) (by omega)
      cases b4 : (e.s == (f.s + 100 * (i : Int)) % 4294967296) with
      | false =>
        have hff := hid (allr_no (f := okG (L.map Lay.plain)) hlt (by rw [hok.out, b1, b2, b3, b4]; simp))
        have n3 := bne_of b4
        go_wp2
        obtain ⟨wB, hwB⟩ : ∃ q, q = wr.alloc (.cells #[.int .i64 e.a, .int .i64 e.b, .int .i64 e.s, .slice e.A e.x.length e.c] 46) := ⟨_, rfl⟩
        rw [← hwB]
        have hwz : w.heap.size < wB.heap.size := by rw [hwB]; simp; omega
        have hwz2 : wr.heap.size < wB.heap.size := by rw [hwB]; simp
        have FB := hid (hwB ▸ BF1.out)
        have EB := hid (hwB ▸ BE.out)
        have RB := hid (hwB ▸ RD.out)
        have WB := hid (hwB ▸ W1.out)
        clear hwB
        obtain ⟨x0, x1, x2, x3⟩ := FB.out.cells4
        have x0' := fun (n : Nat) (os : Array Obj) => cell_grown (w := wB) (a := ⟨w.heap.size, 0, none⟩) (by assumption) x0 n os
        have x1' := fun (n : Nat) (os : Array Obj) => cell_grown (w := wB) (a := ⟨w.heap.size, 1, none⟩) (by assumption) x1 n os
        have x2' := fun (n : Nat) (os : Array Obj) => cell_grown (w := wB) (a := ⟨w.heap.size, 2, none⟩) (by assumption) x2 n os
        have x3' := fun (n : Nat) (os : Array Obj) => cell_grown (w := wB) (a := ⟨w.heap.size, 3, none⟩) (by assumption) x3 n os
        clear x0 x1 x2 x3
        obtain ⟨y0, y1, y2, y3⟩ := EB.out.cells4
        have y0' := fun (n : Nat) (os : Array Obj) => cell_grown (w := wB) (a := ⟨wr.heap.size, 0, none⟩) (by assumption) y0 n os
        have y1' := fun (n : Nat) (os : Array Obj) => cell_grown (w := wB) (a := ⟨wr.heap.size, 1, none⟩) (by assumption) y1 n os
        have y2' := fun (n : Nat) (os : Array Obj) => cell_grown (w := wB) (a := ⟨wr.heap.size, 2, none⟩) (by assumption) y2 n os
        have y3' := fun (n : Nat) (os : Array Obj) => cell_grown (w := wB) (a := ⟨wr.heap.size, 3, none⟩) (by assumption) y3 n os
        clear y0 y1 y2 y3
        have ld := fun (n : Nat) (os : Array Obj) => load4 Try.prog (Sort.grow (wB.drewN n) os) wr.heap.size _ _ _ _ (y0' n os) (y1' n os) (y2' n os) (y3' n os)
        have C1 : Hid (∀ (n : Nat) (os : Array Obj), Calls Try.prog 44 #[.agg #[.int .i64 e.a, .int .i64 e.b, .int .i64 e.s, .slice e.A e.x.length e.c]] (Sort.grow (wB.drewN n) os) fun en w' => en = .returned (.bool true) ∧ ∃ q os', w' = Sort.grow ((Sort.grow (wB.drewN n) os).drewN q) os') := fun n os => by
          have h := iValidCells_gr e.a e.b e.s e.A e.c e.x (Sort.grow (wB.drewN n) os) HWE.out.1 HWE.out.2.1 HWE.out.2.2.1 (RB.out.below (below_grow wB n os)) hel HWE.out.2.2.2
          rw [b1] at h
          exact h.mono fun _ _ ⟨h1, os', h2⟩ => ⟨h1, 0, os', h2⟩
        obtain ⟨WQ, hWQ, hNIL, hSTEP⟩ := quiet_var Try.prog
        refine wp_region_quiet_grown (by assumption) (by kernel_rfl) ?_
        rw [← hWQ]
        repeat (refine hSTEP.out _ _ _ _ _ _ (fun K hK => ?_); go_simp; first | (refine hK _ ?_; clear hK K) | (apply Exists.intro; refine ⟨fun _ => ?_, hK _ ?_⟩; (first | (go_at_call 44; exact Calls.grown_of (C1.out _ _)) | (go_at_call 25; exact Calls.grown_of ((C2.out _).mono fun _ _ ⟨h1, h2⟩ => ⟨h1, 0, #[], by rw [Sort.grow_empty]; exact h2.symm⟩))); clear hK K))
        refine hNIL.out _ _ _ _ ?_
        clear hWQ hNIL hSTEP
        intro _ hw'
        obtain ⟨⟨nq, osq⟩, hw''⟩ := hw'
        subst hw''
        clear ld x0' x1' x2' x3' y0' y1' y2' y3'
        have W2 := hid (WB.out.trans ((below_grow wB nq osq).mono WB.out.size))
        have BF2 := hid (FB.out.below (below_grow wB nq osq))
        go_wp2
        go_ret
        exact ⟨ret_bool (by rw [hv.out, hff.out]), W2.out⟩
      | true =>
      have n3 := bne_of b4
      have hff := hid (allr_snoc (f := okG (L.map Lay.plain)) hh (by rw [hok.out, b1, b2, b3, b4]; rfl))
      go_wp2
      obtain ⟨wB, hwB⟩ : ∃ q, q = wr.alloc (.cells #[.int .i64 e.a, .int .i64 e.b, .int .i64 e.s, .slice e.A e.x.length e.c] 46) := ⟨_, rfl⟩
      rw [← hwB]
      have hwz : w.heap.size < wB.heap.size := by rw [hwB]; simp; omega
      have hwz2 : wr.heap.size < wB.heap.size := by rw [hwB]; simp
      have FB := hid (hwB ▸ BF1.out)
      have EB := hid (hwB ▸ BE.out)
      have RB := hid (hwB ▸ RD.out)
      have WB := hid (hwB ▸ W1.out)
      clear hwB
      obtain ⟨x0, x1, x2, x3⟩ := FB.out.cells4
      have x0' := fun (n : Nat) (os : Array Obj) => cell_grown (w := wB) (a := ⟨w.heap.size, 0, none⟩) (by assumption) x0 n os
      have x1' := fun (n : Nat) (os : Array Obj) => cell_grown (w := wB) (a := ⟨w.heap.size, 1, none⟩) (by assumption) x1 n os
      have x2' := fun (n : Nat) (os : Array Obj) => cell_grown (w := wB) (a := ⟨w.heap.size, 2, none⟩) (by assumption) x2 n os
      have x3' := fun (n : Nat) (os : Array Obj) => cell_grown (w := wB) (a := ⟨w.heap.size, 3, none⟩) (by assumption) x3 n os
      clear x0 x1 x2 x3
      obtain ⟨y0, y1, y2, y3⟩ := EB.out.cells4
      have y0' := fun (n : Nat) (os : Array Obj) => cell_grown (w := wB) (a := ⟨wr.heap.size, 0, none⟩) (by assumption) y0 n os
      have y1' := fun (n : Nat) (os : Array Obj) => cell_grown (w := wB) (a := ⟨wr.heap.size, 1, none⟩) (by assumption) y1 n os
      have y2' := fun (n : Nat) (os : Array Obj) => cell_grown (w := wB) (a := ⟨wr.heap.size, 2, none⟩) (by assumption) y2 n os
      have y3' := fun (n : Nat) (os : Array Obj) => cell_grown (w := wB) (a := ⟨wr.heap.size, 3, none⟩) (by assumption) y3 n os
      clear y0 y1 y2 y3
      have ld := fun (n : Nat) (os : Array Obj) => load4 Try.prog (Sort.grow (wB.drewN n) os) wr.heap.size _ _ _ _ (y0' n os) (y1' n os) (y2' n os) (y3' n os)
      have C1 : Hid (∀ (n : Nat) (os : Array Obj), Calls Try.prog 44 #[.agg #[.int .i64 e.a, .int .i64 e.b, .int .i64 e.s, .slice e.A e.x.length e.c]] (Sort.grow (wB.drewN n) os) fun en w' => en = .returned (.bool true) ∧ ∃ q os', w' = Sort.grow ((Sort.grow (wB.drewN n) os).drewN q) os') := fun n os => by
        have h := iValidCells_gr e.a e.b e.s e.A e.c e.x (Sort.grow (wB.drewN n) os) HWE.out.1 HWE.out.2.1 HWE.out.2.2.1 (RB.out.below (below_grow wB n os)) hel HWE.out.2.2.2
        rw [b1] at h
        exact h.mono fun _ _ ⟨h1, os', h2⟩ => ⟨h1, 0, os', h2⟩
      obtain ⟨WQ, hWQ, hNIL, hSTEP⟩ := quiet_var Try.prog
      refine wp_region_quiet_grown (by assumption) (by kernel_rfl) ?_
      rw [← hWQ]
      repeat (refine hSTEP.out _ _ _ _ _ _ (fun K hK => ?_); go_simp; first | (refine hK _ ?_; clear hK K) | (apply Exists.intro; refine ⟨fun _ => ?_, hK _ ?_⟩; (first | (go_at_call 44; exact Calls.grown_of (C1.out _ _)) | (go_at_call 25; exact Calls.grown_of ((C2.out _).mono fun _ _ ⟨h1, h2⟩ => ⟨h1, 0, #[], by rw [Sort.grow_empty]; exact h2.symm⟩))); clear hK K))
      refine hNIL.out _ _ _ _ ?_
      clear hWQ hNIL hSTEP
      intro _ hw'
      obtain ⟨⟨nq, osq⟩, hw''⟩ := hw'
      subst hw''
      clear ld x0' x1' x2' x3' y0' y1' y2' y3'
      have W2 := hid (WB.out.trans ((below_grow wB nq osq).mono WB.out.size))
      have BF2 := hid (FB.out.below (below_grow wB nq osq))
      go_wp2
      exact ⟨⟨i + 1, by omega, by go_num, hff, BF2, W2⟩, by simp [intOf]; omega⟩
    · have hi : ¬ (i : Int) < 8 := by omega
      obtain rfl : i = 8 := by omega
      go_wp2
      go_ret
      exact ⟨ret_bool (by rw [hv.out, hh.out]), hW.out⟩
end Go.Proofs.Ytmafkkpdcajfoaa
