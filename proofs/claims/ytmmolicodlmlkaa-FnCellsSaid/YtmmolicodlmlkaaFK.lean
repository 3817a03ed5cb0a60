/-
  Parts of the proof: The work of CellsShared, as sharedWork asks for it: cells that stand, what is read. The work of CellsShared for one list: from its call to its return; the whole as sharedWork asks for it. The work of CellsShared for one list, in a worker; as sharedWork asks for it. impl.CellsShared beside leavers: to its call of sharedWork, or to its return where nothing is worked on. impl.CellsShared from behind sharedWork to its return, alone. impl.CellsShared at the machine: called beside leavers, and come back: with the cells of all lists, or with nothing. The reference's CellsShared, by contract: the whol No condition.
-/
import Derived.Test.YtmmolicodlmlkaaFJ
import Derived.Test.YtmmolicodlmlkaaFI
import Derived.Test.YtmmolicodlmlkaaFH
set_option linter.unusedVariables false
set_option linter.unusedSimpArgs false
namespace Go.Proofs.Ytmmolicodlmlkaa.Ph
open Go.Conc Go.ConcN Go.RowKit Go.Conc.Lib Go.ConcR.Gen Go.ConcN.Gen
open Go.ConcR (KK wgBlock WgAt stA smA rd wr mk DC0 Payload)
open Go.Proofs.Ytmmolicodlmlkaa.Rel
set_option linter.unusedVariables false
set_option linter.unusedSimpArgs false

/-- What is worked on: cells without counts, lists, the boxes that hold them, the block for the cells. -/
structure CellIn (Shun : Loc → Prop) (w0 : World) (wd dp s n g : Nat) (AL : Option Addr) (cL : Nat) (xss : List (List Int)) (C bo bl bm : Nat) : Prop where
  glob : Try.prog.globals.size ≤ w0.heap.size
  w1 : 2 ≤ wd
  w2 : wd ≤ 64
  d1 : 1 ≤ dp
  d2 : dp ≤ 6
  s32 : s < 4294967296
  hn : n = wd * dp
  l16 : xss.length ≤ 16
  keys : ∀ x ∈ xss, keysQ x = true
  lists : SSr (fun b => FreeB Shun w0 b ∧ b ≠ C) w0 AL xss
  hg : FreeB Shun w0 g ∧ g ≠ C ∧ Blk w0 g 2 ((List.replicate n (0 : Int)).map (Value.int .i64))
  ho : FreeB Shun w0 bo ∧ bo ≠ C ∧ ∃ t, w0.heap[bo]? = some (.cells #[.int .i64 wd, .int .i64 dp, .int .i64 s, .slice (some ⟨g, 0, none⟩) n n] t (0, 0))
  hl : FreeB Shun w0 bl ∧ bl ≠ C ∧ ∃ t, w0.heap[bl]? = some (.cells #[.slice AL xss.length cL] t (0, 0))
  hm : FreeB Shun w0 bm ∧ bm ≠ C ∧ ∃ t, w0.heap[bm]? = some (.cells #[.slice (some ⟨C, 0, none⟩) xss.length xss.length] t (0, 0))
  hC : ∃ cs t, w0.heap[C]? = some (.cells cs t (0, 0)) ∧ cs.size = 4 * xss.length
/-- The cells of some numbers: their counts lie in blocks of S, each in its own. -/
def CellsIn (C wd dp s n : Nat) (xss : List (List Int)) (D : Nat → Prop) (S : Nat → Prop) (w : World) : Prop :=
  ∃ (R : Nat → Nat) (cc : Nat → Nat),
    (∀ o, D o → Four w C o wd dp s n (R o) (cc o) ∧ OwnS (Value.int .i64) w 0 2 (some ⟨R o, 0, none⟩) (madeC wd s dp xss o) ∧ S (R o) ∧ Ints w (R o)) ∧
    (∀ o o', D o → D o' → R o = R o' → o = o')
section
variable {Shun : Loc → Prop} {w0 w w₁ : World} {wd dp s n g C bo bl bm cL lo k j i : Nat} {AL : Option Addr} {xss : List (List Int)} {D D' S S' mine Rd : Nat → Prop}
theorem Four.out {o R c : Nat} (h : Four w C o wd dp s n R c) (hC : OutStay C mine w w₁) (hm : ∀ e, e / 4 = o → mine e) : Four w₁ C o wd dp s n R c :=
  ⟨out_cell hC (hm _ (by omega)) h.1, out_cell hC (hm _ (by omega)) h.2.1, out_cell hC (hm _ (by omega)) h.2.2.1, out_cell hC (hm _ (by omega)) h.2.2.2⟩
theorem CellsIn.sub (h : CellsIn C wd dp s n xss D S w) (hD : ∀ o, D' o → D o) : CellsIn C wd dp s n xss D' S w :=
  let ⟨R, cc, h1, h2⟩ := h
  ⟨R, cc, fun o ho => h1 o (hD o ho), fun o o' ho ho' => h2 o o' (hD o ho) (hD o' ho')⟩
theorem CellsIn.stay (h : CellsIn C wd dp s n xss D S w) (hS : ∀ b, S b → w₁.heap[b]? = w.heap[b]?) (hC : OutStay C mine w w₁) (hD : ∀ o, D o → ∀ e, e / 4 = o → mine e) (hSS : ∀ b, S b → S' b) : CellsIn C wd dp s n xss D S' w₁ := by
  obtain ⟨R, cc, h1, h2⟩ := h
  refine ⟨R, cc, fun o ho => ?_, h2⟩
  obtain ⟨q1, q2, q3, q4⟩ := h1 o ho
  exact ⟨q1.out hC (hD o ho), own_stay (A := some ⟨R o, 0, none⟩) q2 (fun a ha => by injection ha with ha; subst ha; exact hS _ q3), hSS _ q3, q4.stay (hS _ q3)⟩
/-- What a worker holds ahead of number i. -/
def JC (Shun : Loc → Prop) (C : Nat) (w0 : World) (wd dp s n : Nat) (xss : List (List Int)) (k j i : Nat) (S : Nat → Prop) (w : World) : Prop :=
  U0 Shun C w0 w ∧ (∀ b, S b → w0.heap.size ≤ b) ∧ i % k = j ∧ CellsIn C wd dp s n xss (fun o => o < i ∧ o % k = j) S w
theorem JC.rely {ty : TypeId} {Wg : Nat} (h : JC Shun C w0 wd dp s n xss k j i S w) (hR : ∀ x, FreeB Shun w0 x ∧ x ≠ C → Rd x) (r : RW ty Wg C (fun e => e / 4 % k = j) Rd S w w₁) : JC Shun C w0 wd dp s n xss k j i S w₁ :=
  ⟨h.1.rely hR r, h.2.1, h.2.2.1, h.2.2.2.stay r.own r.out (fun o ho e he => by subst he; exact ho.2) fun _ h => h⟩
/-- .. and at its end. -/
def FactC (lo C wd dp s n : Nat) (xss : List (List Int)) (k j : Nat) (S : Nat → Prop) (w : World) : Prop :=
  (∀ b, S b → lo ≤ b) ∧ CellsIn C wd dp s n xss (fun o => o < xss.length ∧ o % k = j) S w
end
section
variable {Shun : Loc → Prop} {w0 v : World} {wd dp s n g C bo bl bm cL k j i Wg : Nat} {AL : Option Addr} {xss : List (List Int)} {S Rd : Nat → Prop}
def csFs : FuncId → Bool := fun f => [91, 118, 92, 114, 110, 111, 66].contains f
set_option maxRecDepth 100000 in
/-- What the lone goroutine that stands for a worker finds. -/
theorem cs_lone (I : CellIn Shun w0 wd dp s n g AL cL xss C bo bl bm) (hR : ∀ y, FreeB Shun w0 y ∧ y ≠ C → Rd y) (hi : i < xss.length) (hW : WI Wg C Rd S v) (hU : U0 Shun C w0 v) :
    (∀ y, y = bo ∨ y = bl ∨ y = bm → FreeB Shun w0 y ∧ y ≠ C ∧ (fnsC csFs v (RdS Rd S) No C).al y = true) ∧
    (loneW (fnsC csFs v (RdS Rd S) No C) v).cell? ⟨bo, 0, none⟩ = some (.int .i64 wd) ∧ (loneW (fnsC csFs v (RdS Rd S) No C) v).cell? ⟨bo, 1, none⟩ = some (.int .i64 dp) ∧ (loneW (fnsC csFs v (RdS Rd S) No C) v).cell? ⟨bo, 2, none⟩ = some (.int .i64 s) ∧ (loneW (fnsC csFs v (RdS Rd S) No C) v).cell? ⟨bo, 3, none⟩ = some (.slice (some ⟨g, 0, none⟩) n n) ∧
    RdL (Value.int .i64) (loneW (fnsC csFs v (RdS Rd S) No C) v) (some ⟨g, 0, none⟩) (List.replicate n 0) ∧
    (loneW (fnsC csFs v (RdS Rd S) No C) v).cell? ⟨bl, 0, none⟩ = some (.slice AL xss.length cL) ∧ (loneW (fnsC csFs v (RdS Rd S) No C) v).cell? ⟨bm, 0, none⟩ = some (.slice (some ⟨C, 0, none⟩) xss.length xss.length) ∧
    ∃ CL oL R cc, AL = some ⟨CL, oL, none⟩ ∧ (loneW (fnsC csFs v (RdS Rd S) No C) v).cell? ⟨CL, oL + i, none⟩ = some (.slice R xss[i].length cc) ∧ RdL (Value.int .i64) (loneW (fnsC csFs v (RdS Rd S) No C) v) R xss[i] := by
  have hst : ∀ y, FreeB Shun w0 y → y ≠ C → v.heap[y]? = w0.heap[y]? := hU.2.1
  have hna : ∀ y, y ≠ C → (fnsC csFs v (RdS Rd S) No C).na y = false := fun y hy => by
    cases h : (fnsC csFs v (RdS Rd S) No C).na y with
    | false => rfl
    | true => exact absurd (fnsC_na.1 h) hy
  have hal : ∀ y, FreeB Shun w0 y → y ≠ C → plainO (w0.heap[y]?) = true → (fnsC csFs v (RdS Rd S) No C).al y = true := fun y hy hC hp => by
    have hr := hR y ⟨hy, hC⟩
    exact fnsC_old (hW.rd y hr).1 (.inr (.inl hr)) (by rw [hst y hy hC]; exact hp)
  have hlt : ∀ y, FreeB Shun w0 y → y ≠ C → y < v.heap.size := fun y hy hC => (hW.rd y (hR y ⟨hy, hC⟩)).1
  obtain ⟨hk1, hk2, tk, hk3⟩ := I.ho
  obtain ⟨hs1, hs2, ts, hs3⟩ := I.hl
  obtain ⟨ho1, ho2, tp, ho3⟩ := I.hm
  obtain ⟨hg1, hg2, hg3⟩ := I.hg
  have hgI : Ints w0 g := ⟨_, _, hg3, fun x hx => by simp at hx; exact ⟨0, hx.2⟩⟩
  have okA : ∀ (B : Option Addr) (n cc : Nat), (∀ a, B = some a → FreeB Shun w0 a.block ∧ a.block ≠ C ∧ Plz w0 a) → okV (fnsC csFs v (RdS Rd S) No C) v.heap.size (.slice B n cc) = true := by
    intro B n cc hB
    cases B with
    | none => simp
    | some a =>
      obtain ⟨q1, q2, q3, q4⟩ := hB a rfl
      rw [okV_sliceA _ _ _ _ q4]
      simp [Rel.inB, hlt _ q1 q2, hal _ q1 q2 q3]
  have okO : okV (fnsC csFs v (RdS Rd S) No C) v.heap.size (.slice (some ⟨C, 0, none⟩) xss.length xss.length) = true := by
    rw [okV_slice]
    simp [Rel.inB, hW.c.1, fnsC_C hW.c.1]
  have cl : ∀ y us t, FreeB Shun w0 y → y ≠ C → w0.heap[y]? = some (.cells us t (0, 0)) → (∀ u ∈ us, okV (fnsC csFs v (RdS Rd S) No C) v.heap.size u = true) → ∀ o, (loneW (fnsC csFs v (RdS Rd S) No C) v).cell? ⟨y, o, none⟩ = us[o]? := by
    intro y us t h1 h2 h3 h4 o
    have h5 := (hst y h1 h2).trans h3
    rw [Clean.cell (a := ⟨y, o, none⟩) ⟨_, _, h5, h4⟩ (hna y h2) (hal y h1 h2 (by rw [h3]; rfl))]
    simp [World.cell?, h5]
  have okg : okV (fnsC csFs v (RdS Rd S) No C) v.heap.size (.slice (some ⟨g, 0, none⟩) n n) = true := okA _ _ _ fun a ha => by cases ha; exact ⟨hg1, hg2, hgI.plain, rfl⟩
  have cbo := cl bo _ _ hk1 hk2 hk3 (fun u hu => by
    simp at hu
    rcases hu with rfl | rfl | rfl | rfl
    · simp
    · simp
    · simp
    · exact okg)
  refine ⟨fun y hy => ?_, cbo 0, cbo 1, cbo 2, cbo 3, ?_, ?_, ?_, ?_⟩
  · rcases hy with rfl | rfl | rfl
    · exact ⟨hk1, hk2, hal _ hk1 hk2 (by rw [hk3]; rfl)⟩
    · exact ⟨hs1, hs2, hal _ hs1 hs2 (by rw [hs3]; rfl)⟩
    · exact ⟨ho1, ho2, hal _ ho1 ho2 (by rw [ho3]; rfl)⟩
  · intro o ho
    refine ⟨g, 0, rfl, ?_⟩
    have hon : o < n := by simpa using ho
    rw [Nat.zero_add, cl g _ _ hg1 hg2 hg3 (fun u hu => by simp at hu; rw [hu.2]; simp) o]
    simp [hon]
  · rw [cl bl _ _ hs1 hs2 hs3 (fun u hu => by
      simp at hu
      subst hu
      exact okA _ _ _ fun a ha => ⟨(I.lists.1 a ha).1.1, (I.lists.1 a ha).1.2, (I.lists.1 a ha).2⟩) 0]
    rfl
  · rw [cl bm _ _ ho1 ho2 ho3 (fun u hu => by simp at hu; subst hu; exact okO) 0]
    rfl
  · obtain ⟨CL, oL, R, cc, e1, e2, e3, e4⟩ := I.lists.2 i hi
    obtain ⟨q1, q2, _⟩ := I.lists.1 _ e1
    have hc := loneW_any (Fs := fnsC csFs v (RdS Rd S) No C) (a := ⟨CL, oL + i, none⟩) ((cell_stay (a := ⟨CL, oL + i, none⟩) (hst CL q1.1 q1.2)).trans e2) (hna CL q1.2) (hal CL q1.1 q1.2 q2) (fnsC_no (hlt CL q1.1 q1.2))
    rcases e4 with e4 | ⟨e4, rfl⟩
    rotate_left
    · rw [e4] at hc
      obtain ⟨R', h'⟩ := absV_empty (Fs := fnsC csFs v (RdS Rd S) No C) (B := v.heap.size) R
      exact ⟨CL, oL, R', 0, e1, by rw [e4]; exact hc.trans (congrArg some h'), by rw [e4]; intro i hi; simp at hi⟩
    refine ⟨CL, oL, R, cc, e1, ?_, ?_⟩
    · exact hc.trans (by rw [absV_same _ (okA _ _ _ fun a ha => ⟨(e4 a ha).1.1, (e4 a ha).1.2, (e4 a ha).2⟩)])
    · refine rdl_look (rdl_stay e3 fun a ha => hst _ (e4 a ha).1.1 (e4 a ha).1.2) (fun _ => by simp) fun b o _ hA => ?_
      obtain ⟨z1, z2, _⟩ := e4 _ hA
      exact ⟨hna b z1.2, hal b z1.1 z1.2 z2, fnsC_no (hlt b z1.1 z1.2)⟩
end
end Go.Proofs.Ytmmolicodlmlkaa.Ph
namespace Go.Proofs.Ytmmolicodlmlkaa.Ph
open Go.Conc Go.ConcN Go.RowKit Go.Conc.Lib Go.ConcR.Gen Go.ConcN.Gen
open Go.ConcR (KK wgBlock WgAt stA smA rd wr mk DC0 Payload)
open Go.Proofs.Ytmmolicodlmlkaa.Rel
set_option linter.unusedVariables false
set_option linter.unusedSimpArgs false

theorem csOk1 : fnOk Try.prog csFs Try.f91 = true := by kernel_rfl
theorem csOk2 : fnOk Try.prog csFs Try.f118 = true := by kernel_rfl
theorem csOk3 : fnOk Try.prog csFs Try.f92 = true := by kernel_rfl
theorem csOk4 : fnOk Try.prog csFs Try.f114 = true := by kernel_rfl
theorem csOk5 : fnOk Try.prog csFs Try.f110 = true := by kernel_rfl
theorem csOk6 : fnOk Try.prog csFs Try.f111 = true := by kernel_rfl
theorem csOk7 : fnOk Try.prog csFs Try.f66 = true := by kernel_rfl
theorem csFs_ok : ∀ f, csFs f = true → ∃ fn, Try.prog.funcs[f]? = some fn ∧ fnOk Try.prog csFs fn = true := by
  intro f hf
  simp [csFs] at hf
  rcases hf with rfl | rfl | rfl | rfl | rfl | rfl | rfl
  · exact ⟨_, Try.func91, csOk1⟩
  · exact ⟨_, Try.func118, csOk2⟩
  · exact ⟨_, Try.func92, csOk3⟩
  · exact ⟨_, Try.func114, csOk4⟩
  · exact ⟨_, Try.func110, csOk5⟩
  · exact ⟨_, Try.func111, csOk6⟩
  · exact ⟨_, Try.func66, csOk7⟩
theorem cs_codeOk : codeOk Try.prog ⟨csFs, fun _ => false, fun _ => false, fun _ => false⟩ csBody = true := by kernel_rfl
theorem cs_body : Try.f90.body = some csBody := rfl
theorem cs_enter (i : Int) (bo bl bm : Nat) : Frame.enter Try.prog 90 (#[.int .i64 i] ++ #[ptr bo, ptr bl, ptr bm]) .normal = (base 90).at (csAct i bo bl bm) [.code csBody] := by
  rw [enter_at _ Try.func90 cs_body]
  kernel_rfl
theorem nm_cs : (Try.f90.name == "runtime.NumGoroutine") = false := by kernel_rfl
section
variable {Wg C : Nat} {mine Rd S : Nat → Prop} {w : World}
/-- Four cells stored. -/
def four (w : World) (C o : Nat) (a b c d : Value) : World := (((w.setCell ⟨C, o, none⟩ a).setCell ⟨C, o + 1, none⟩ b).setCell ⟨C, o + 2, none⟩ c).setCell ⟨C, o + 3, none⟩ d
theorem four_other {o : Nat} {a b c d : Value} {y : Nat} (hy : y ≠ C) : (four w C o a b c d).heap[y]? = w.heap[y]? := by
  unfold four
  rw [heap_setCell_other _ _ y _ hy, heap_setCell_other _ _ y _ hy, heap_setCell_other _ _ y _ hy, heap_setCell_other _ _ y _ hy]
theorem setCell_heap {o : Nat} {v : Value} {cs : Array Value} {e : TypeId} {fr : Nat × Nat} (h : w.heap[C]? = some (.cells cs e fr)) : (w.setCell ⟨C, o, none⟩ v).heap[C]? = some (.cells (cs.setIfInBounds o v) e fr) := by
  unfold World.setCell
  simp only [Array.getElem?_modify, if_true, h, Option.map_some]
  rfl
theorem four_heap {o : Nat} {a b c d : Value} {cs : Array Value} {e : TypeId} {fr : Nat × Nat} (h : w.heap[C]? = some (.cells cs e fr)) : (four w C o a b c d).heap[C]? = some (.cells ((((cs.setIfInBounds o a).setIfInBounds (o + 1) b).setIfInBounds (o + 2) c).setIfInBounds (o + 3) d) e fr) := by
  unfold four
  exact setCell_heap (setCell_heap (setCell_heap (setCell_heap h)))
theorem dw_four {o : Nat} {a b c d : Value} {es : Array Event} (hm : ∀ e, o ≤ e → e < o + 4 → mine e) (h : ∀ e ∈ es, ∃ p, o ≤ p ∧ p < o + 4 ∧ e = ⟨.cell ⟨C, p, none⟩, true, false⟩) : DW Wg C mine Rd S w (four w C o a b c d) es S := by
  have hs : (four w C o a b c d).heap.size = w.heap.size := by simp [four, World.setCell]
  refine ⟨rfl, rfl, rfl, by omega, fun b => ⟨.inl, fun h => h.elim id fun h => by omega⟩, fun b hb hn hne => four_other hne, fun cs e fr h0 => ?_, fun e he => ?_⟩
  · refine ⟨_, four_heap h0, by simp, fun p hp => ?_⟩
    have hne : ∀ q, o ≤ q → q < o + 4 → q ≠ p := fun q h1 h2 e => hp (e ▸ hm q h1 h2)
    rw [Array.getElem?_setIfInBounds_ne (hne _ (by omega) (by omega)), Array.getElem?_setIfInBounds_ne (hne _ (by omega) (by omega)), Array.getElem?_setIfInBounds_ne (hne _ (by omega) (by omega)), Array.getElem?_setIfInBounds_ne (hne _ (by omega) (by omega))]
  · obtain ⟨p, h1, h2, rfl⟩ := h e he
    exact .inr ⟨p, true, hm p h1 h2, rfl⟩
end
section
variable {Shun : Loc → Prop} {w0 v : World} {wd dp s n g C bo bl bm cL k j i Wg : Nat} {AL : Option Addr} {xss : List (List Int)} {S Rd : Nat → Prop}
/-- The new counts, ahead of their store. -/
def NewC (lo B wd dp s : Nat) (xss : List (List Int)) (i R : Nat) (S : Nat → Prop) (w : World) : Prop :=
  OwnS (Value.int .i64) w 0 2 (some ⟨R, 0, none⟩) (madeC wd s dp xss i) ∧ S R ∧ B ≤ R ∧ Ints w R
theorem NewC.rely {lo B R : Nat} {w w₁ : World} (h : NewC lo B wd dp s xss i R S w) (hS : ∀ b, S b → w₁.heap[b]? = w.heap[b]?) : NewC lo B wd dp s xss i R S w₁ :=
  ⟨own_stay h.1 (fun a ha => by injection ha with ha; subst ha; exact hS _ h.2.1), h.2.1, h.2.2.1, h.2.2.2.stay (hS _ h.2.1)⟩
/-- Behind the store. -/
theorem jc_store {S' : Nat → Prop} {B cc R : Nat} {w : World} (h : JC Shun C w0 wd dp s n xss k j i S w) (hSB : ∀ b, S b → b < B) (hSS : ∀ b, S b → S' b) (hlo' : ∀ b, S' b → w0.heap.size ≤ b) (hN : NewC w0.heap.size B wd dp s xss i R S' w)
    (hCS : ¬ S' C) (hc : ∃ cs e fr, w.heap[C]? = some (.cells cs e fr) ∧ 4 * i + 4 ≤ cs.size) : JC Shun C w0 wd dp s n xss k j (i + k) S' (four w C (4 * i) (.int .i64 wd) (.int .i64 dp) (.int .i64 s) (.slice (some ⟨R, 0, none⟩) n cc)) := by
  obtain ⟨⟨⟨u1, u2, u3⟩, hst, hout⟩, hlo, hij, R0, c0, h1, h2⟩ := h
  obtain ⟨cs, e, fr, hcs, hsz⟩ := hc
  have old : ∀ b, b ≠ C → (four w C (4 * i) (.int .i64 wd) (.int .i64 dp) (.int .i64 s) (.slice (some ⟨R, 0, none⟩) n cc)).heap[b]? = w.heap[b]? := fun b hb => four_other hb
  have oS : ∀ b, S' b → (four w C (4 * i) (.int .i64 wd) (.int .i64 dp) (.int .i64 s) (.slice (some ⟨R, 0, none⟩) n cc)).heap[b]? = w.heap[b]? := fun b hb => old b fun e => hCS (e ▸ hb)
  have hfh := four_heap (a := .int .i64 wd) (b := .int .i64 dp) (c := .int .i64 s) (d := .slice (some ⟨R, 0, none⟩) n cc) (o := 4 * i) hcs
  have hnew : Four (four w C (4 * i) (.int .i64 wd) (.int .i64 dp) (.int .i64 s) (.slice (some ⟨R, 0, none⟩) n cc)) C i wd dp s n R cc := by
    refine ⟨?_, ?_, ?_, ?_⟩ <;> (simp only [World.cell?, hfh]; simp [Array.getElem?_setIfInBounds]; omega)
  have hoth : ∀ p, p / 4 ≠ i → (four w C (4 * i) (.int .i64 wd) (.int .i64 dp) (.int .i64 s) (.slice (some ⟨R, 0, none⟩) n cc)).cell? ⟨C, p, none⟩ = w.cell? ⟨C, p, none⟩ := fun p hp => by
    simp only [World.cell?, hfh, hcs]
    rw [Array.getElem?_setIfInBounds_ne (by omega), Array.getElem?_setIfInBounds_ne (by omega), Array.getElem?_setIfInBounds_ne (by omega), Array.getElem?_setIfInBounds_ne (by omega)]
  have hos : OutStay C (fun _ => False) w (four w C (4 * i) (.int .i64 wd) (.int .i64 dp) (.int .i64 s) (.slice (some ⟨R, 0, none⟩) n cc)) := fun cs e fr h0 => ⟨_, four_heap h0, by simp, fun _ h => h.elim⟩
  have hw1 : (four w C (4 * i) (.int .i64 wd) (.int .i64 dp) (.int .i64 s) (.slice (some ⟨R, 0, none⟩) n cc)).tape = w.tape := rfl
  have hw2 : (four w C (4 * i) (.int .i64 wd) (.int .i64 dp) (.int .i64 s) (.slice (some ⟨R, 0, none⟩) n cc)).os = w.os := rfl
  have hw3 : (four w C (4 * i) (.int .i64 wd) (.int .i64 dp) (.int .i64 s) (.slice (some ⟨R, 0, none⟩) n cc)).output = w.output := rfl
  clear hfh
  generalize four w C (4 * i) (.int .i64 wd) (.int .i64 dp) (.int .i64 s) (.slice (some ⟨R, 0, none⟩) n cc) = w' at *
  have hlt : ∀ {o : Nat}, o < i + k → o % k = j → o ≠ i → o < i := fun {o} h1 h2 h3 => by
    rcases Nat.lt_or_ge o i with h | h
    · exact h
    · exact absurd (mod_next h2 hij h h1) h3
  refine ⟨⟨⟨hw1.trans u1, hw2.trans u2, hw3.trans u3⟩, fun y hy hC => (old y hC).trans (hst y hy hC), hout.trans hos⟩, hlo', by rw [Nat.add_mod_right]; exact hij,
    fun o => if o = i then R else R0 o, fun o => if o = i then cc else c0 o, fun o ho => ?_, fun o o' ho ho' hb => ?_⟩
  · by_cases he : o = i
    · subst he
      simp only [if_true]
      have hN' := hN.rely oS
      exact ⟨hnew, hN'.1, hN'.2.1, hN'.2.2.2⟩
    · obtain ⟨q1, q2, q3, q4⟩ := h1 o ⟨hlt ho.1 ho.2 he, ho.2⟩
      simp only [he, if_false]
      obtain ⟨z1, z2, z3, z4⟩ := q1
      refine ⟨⟨(hoth (4 * o) (by omega)).trans z1, (hoth (4 * o + 1) (by omega)).trans z2, (hoth (4 * o + 2) (by omega)).trans z3, (hoth (4 * o + 3) (by omega)).trans z4⟩, ?_, hSS _ q3, q4.stay (oS _ (hSS _ q3))⟩
      exact own_stay q2 (fun a ha => by injection ha with ha; subst ha; exact oS _ (hSS _ q3))
  · by_cases he : o = i <;> by_cases he' : o' = i
    · rw [he, he']
    · simp only [he, he', if_true, if_false] at hb
      have hl := hlt ho'.1 ho'.2 he'
      have := hSB _ (h1 o' ⟨hl, ho'.2⟩).2.2.1
      have := hN.2.2.1
      omega
    · simp only [he, he', if_true, if_false] at hb
      have hl := hlt ho.1 ho.2 he
      have := hSB _ (h1 o ⟨hl, ho.2⟩).2.2.1
      have := hN.2.2.1
      omega
    · simp only [he, he', if_false] at hb
      exact h2 o o' ⟨hlt ho.1 ho.2 he, ho.2⟩ ⟨hlt ho'.1 ho'.2 he', ho'.2⟩ hb
end
end Go.Proofs.Ytmmolicodlmlkaa.Ph
namespace Go.Proofs.Ytmmolicodlmlkaa.Ph
open Go.Conc Go.ConcN Go.RowKit Go.Conc.Lib Go.ConcR.Gen Go.ConcN.Gen
open Go.ConcR (KK wgBlock WgAt stA smA rd wr mk DC0 Payload)
open Go.Proofs.Ytmmolicodlmlkaa.Rel
set_option linter.unusedVariables false
set_option linter.unusedSimpArgs false

theorem cs_op4 : csOps[4]? = some { dst := none, op := .store 37 (.tmp 41) (.tmp 40), type := 0, pos := "l03_counts.go:227", after := (csOps[4]?.map Oper.after).getD #[], guard := none } := by kernel_rfl
section
variable {Shun : Loc → Prop} {w0 v : World} {wd dp s n g C bo bl bm cL k j i Wg : Nat} {AL : Option Addr} {xss : List (List Int)} {S Rd : Nat → Prop}
theorem ints_ren {ρ : Rn} {c : Array Value} (h : ∀ v ∈ c, ∃ i, v = .int .i64 i) : c.map (ren ρ) = c := by
  apply Array.ext (by simp)
  intro i h1 h2
  obtain ⟨y, hy⟩ := h c[i] (Array.getElem_mem h2)
  simp only [Array.getElem_map, hy]
  simp
set_option maxRecDepth 100000 in
set_option maxHeartbeats 4000000 in
/-- ████ THE WORK FOR ONE LIST. ████ -/
theorem cs_do (I : CellIn Shun w0 wd dp s n g AL cL xss C bo bl bm) (hk : 1 ≤ k) (hWg : w0.heap.size ≤ Wg) (hR : ∀ y, FreeB Shun w0 y ∧ y ≠ C → Rd y) (hi : i < xss.length) (hW : WI Wg C Rd S v) (hJ : JC Shun C w0 wd dp s n xss k j i S v)
    (b : Frame) (a : Act) (ops : Array Oper) (xx : Nat) (rest : List Nat) (kk : List Item) (cs : List Frame) :
    GW Try.prog link.tWg Wg C (fun e => e / 4 % k = j) Rd (fun S' g' w' => g' = G (b.at (a.put ((ops[xx]?).bind (·.dst)) (.tuple #[])) (.inRegion ops rest :: kk)) cs ∧ JC Shun C w0 wd dp s n xss k j (i + k) S' w') S
      (G (Frame.enter Try.prog 90 (#[.int .i64 i] ++ #[ptr bo, ptr bl, ptr bm]) .normal) (b.at a (.inRegion ops (xx :: rest) :: kk) :: cs)) v := by
  obtain ⟨hal, k0, k1, k2, k3, hrg, hcl, hcm, CL, oL, R, cc, hAL, hcL, hrL⟩ := cs_lone I hR hi hW hJ.1
  have hlt : ∀ y, FreeB Shun w0 y → y ≠ C → y < v.heap.size := fun y hy hC => (hW.rd y (hR y ⟨hy, hC⟩)).1
  have hwgv := hW.wg.1
  have hgl := I.glob
  have hl16 := I.l16
  have hlsz := loneW_size (Fs := fnsC csFs v (RdS Rd S) No C) (v := v)
  rw [cs_enter]
  let Pre : Act → World → Prop := fun a' w' => a'.defers = [] ∧ a'.tmps.size = 42 ∧ ∃ g' ex c', a'.tmps[40]? = some (.agg #[.int .i64 wd, .int .i64 dp, .int .i64 s, .slice (some ⟨g', 0, none⟩) n c']) ∧ a'.tmps[41]? = some (.pointer (some ⟨C, i * 4, none⟩)) ∧
      OwnE ex w' v.heap.size 2 (some ⟨g', 0, none⟩) (putKs wd s dp (List.replicate n 0) xss[i]) ∧ (∀ v ∈ ex, ∃ i, v = .int .i64 i)
  have hup := upto_worker (P := Try.prog) (fs := csFs) (v := v) (Rd := Rd) (S := S) (C := C) (cs := b.at a (.inRegion ops (xx :: rest) :: kk) :: cs) (ty := link.tWg) (Wg := Wg) (mine := fun e => e / 4 % k = j) (f := 90) (c := csBody)
    (a := csAct i bo bl bm) (ops := csOps) (rest := [4]) (Pre := Pre) zero_ok (by omega) (fun ρ => by unfold fnsC fnsNa; exact fnsOk_of csFs_ok) hW.s (fun y hy => (hW.rd y hy).1) hW.c.1
    (by
      obtain ⟨cs0, t, h1, _⟩ := I.hC
      obtain ⟨cs1, h2, _⟩ := hJ.1.2.2 _ _ _ h1
      exact ⟨_, _, _, h2⟩)
    (by unfold fnsC fnsNa; exact code_mono _ cs_codeOk) rfl
    (by
      have hp : ∀ y, y = bo ∨ y = bl ∨ y = bm → okV (fnsC csFs v (RdS Rd S) No C) v.heap.size (ptrB y) = true := fun y h => by
        obtain ⟨h1, h2, h3⟩ := hal y h
        rw [okV_pointer]
        simp [Rel.inB, hlt y h1 h2, h3]
      intro z hz
      simp at hz
      rcases hz with rfl | rfl | rfl | rfl | rfl
      · simp
      · exact hp _ (.inl rfl)
      · exact hp _ (.inr (.inl rfl))
      · exact hp _ (.inr (.inr rfl))
      · exact okV_undef _ _)
    (fun τ b cs => by
      have h := cs_run wd dp s n g i C xss.length cL cc AL xss xss[i] bo bl bm { loneW (fnsC csFs v (RdS Rd S) No C) v with tape := τ, drawn := 0 } I.w1 I.w2 I.d1 I.d2 I.s32 I.hn k0 k1 k2 k3 hrg hcl hcm hi hl16 CL oL R cc hAL hcL hrL (I.keys _ (List.getElem_mem hi)) b cs
      obtain ⟨a', w', ⟨p1, p2, g', ex, c', p3, p4, p5, p6⟩, hs⟩ := h
      exact ⟨a', w', ⟨p1, p2, g', ex, c', p3, p4, by simpa only [hlsz] using p5, p6⟩, hs⟩)
  refine Go1.bind (fun _ a => RW.refl a) hup ?_
  rintro S' g w ⟨s', ρ, a', wl, rfl, rfl, ⟨p1, p2, g', ex, c', p3, p4, p5, p6⟩, hok, hL, hout⟩
  have hCid : ρ.f C = C := hL.id C hW.c.1
  have hSlo : ∀ b, s' b → v.heap.size ≤ b := by
    intro b hb
    rcases (hL.mine b).1 hb with h | ⟨c, h1, _, e⟩
    · exact h.elim
    · have := hL.new c h1; omega
  have hw0v : w0.heap.size ≤ v.heap.size := by omega
  have hJw : JC Shun C w0 wd dp s n xss k j i S w :=
    ⟨⟨⟨hL.tape.trans hJ.1.1.1, hL.os.trans hJ.1.1.2.1, hL.output.trans hJ.1.1.2.2⟩, fun y hy hC => (hL.rd y (.inl (hR y ⟨hy, hC⟩))).trans (hJ.1.2.1 y hy hC), hJ.1.2.2.trans (hout.weaken fun _ h => h.elim)⟩, hJ.2.1, hJ.2.2.1,
      hJ.2.2.2.stay (fun b hb => hL.rd b (.inr hb)) hout (fun o ho e he => by subst he; exact ho.2) fun _ h => h⟩
  have hN : NewC w0.heap.size v.heap.size wd dp s xss i (ρ.f g') (fun b => S b ∨ s' b) w := by
    obtain ⟨g2, e1, e2, e3⟩ := p5
    injection e1 with e1
    injection e1 with e1
    subst e1
    have hlt := e3.lt
    have h1 := (left_blk hL (fnsC_new hW.c.1 e2).1 e3).1
    have hci : ∀ v ∈ ((putKs wd s dp (List.replicate n 0) xss[i]).map (Value.int .i64) ++ ex).toArray, ∃ i, v = .int .i64 i := by
      intro v hv
      simp only [List.mem_toArray, List.mem_append, List.mem_map] at hv
      rcases hv with ⟨y, _, rfl⟩ | hv
      · exact ⟨_, rfl⟩
      · exact p6 v hv
    rw [ints_ren hci] at h1
    obtain ⟨q1, q2⟩ := left_new hL e2 hlt
    refine ⟨fun _ => ⟨ρ.f g', ex, rfl, Nat.zero_le _, ?_⟩, .inr q1, q2, ⟨_, _, h1, hci⟩⟩
    have : madeC wd s dp xss i = putKs wd s dp (List.replicate n 0) xss[i] := by
      unfold madeC
      rw [List.getD_eq_getElem?_getD, List.getElem?_eq_getElem hi, Option.getD_some, I.hn]
    rw [this]
    exact h1
  have hlo' : ∀ b, (S b ∨ s' b) → w0.heap.size ≤ b := fun b hb => hb.elim (hJ.2.1 b) fun h => by have := hSlo b h; omega
  have hCS : ¬ (S C ∨ s' C) := fun h => h.elim hW.c.2 fun h => by have := hSlo C h; have := hW.c.1; omega
  have hF : JC Shun C w0 wd dp s n xss k j i S w ∧ NewC w0.heap.size v.heap.size wd dp s xss i (ρ.f g') (fun b => S b ∨ s' b) w := ⟨hJw, hN⟩
  have rl : ∀ {a b : World}, JC Shun C w0 wd dp s n xss k j i S a ∧ NewC w0.heap.size v.heap.size wd dp s xss i (ρ.f g') (fun b => S b ∨ s' b) a → RW link.tWg Wg C (fun e => e / 4 % k = j) Rd (fun b => S b ∨ s' b) a b →
      JC Shun C w0 wd dp s n xss k j i S b ∧ NewC w0.heap.size v.heap.size wd dp s xss i (ρ.f g') (fun b => S b ∨ s' b) b := fun h r =>
    ⟨⟨h.1.1.rely hR r, h.1.2.1, h.1.2.2.1, h.1.2.2.2.stay (fun b hb => r.own b (.inl hb)) r.out (fun o ho e he => by subst he; exact ho.2) fun _ h => h⟩, h.2.rely r.own⟩
  have hT40 : (a'.tmps.map (ren ρ))[40]? = some (.agg #[.int .i64 wd, .int .i64 dp, .int .i64 s, .slice (some ⟨ρ.f g', 0, none⟩) n c']) := by
    rw [Array.getElem?_map, p3]
    simp
  have hT41 : (a'.tmps.map (ren ρ))[41]? = some (.pointer (some ⟨C, i * 4, none⟩)) := by
    rw [Array.getElem?_map, p4]
    simp [renA, hCid]
  generalize a'.tmps.map (ren ρ) = T at hT40 hT41
  refine go1_op cs_op4 rfl (by k_ne) (fun w₂ h₂ K hK => ?_)
  replace hF := rl hF h₂
  clear h₂
  obtain ⟨cs0, t, hC0, hC1⟩ := I.hC
  obtain ⟨cs1, hC2, hC3, _⟩ := hF.1.1.2.2 _ _ _ hC0
  have hszC : 4 * i + 4 ≤ cs1.size := by omega
  have hE40 : Act.eval ⟨T, []⟩ (.tmp 40) = .agg #[.int .i64 wd, .int .i64 dp, .int .i64 s, .slice (some ⟨ρ.f g', 0, none⟩) n c'] := by simp [Act.eval, hT40]
  have hE41 : Act.eval ⟨T, []⟩ (.tmp 41) = .pointer (some ⟨C, i * 4, none⟩) := by simp [Act.eval, hT41]
  have hc : ∀ p, p < cs1.size → ∃ u, w₂.cell? ⟨C, p, none⟩ = some u := fun p hp => ⟨cs1[p], by simp [World.cell?, hC2, hp]⟩
  obtain ⟨x0, hx0⟩ := hc (i * 4) (by omega)
  obtain ⟨x1, hx1⟩ := hc (i * 4 + 1) (by omega)
  obtain ⟨x2, hx2⟩ := hc (i * 4 + 2) (by omega)
  obtain ⟨x3, hx3⟩ := hc (i * 4 + 3) (by omega)
  have hfz : ∀ p, w₂.frozen? ⟨C, p, none⟩ = false := fun p => by simp [World.frozen?, hC2]
  have hf0 := hfz (i * 4)
  have hf1 := hfz (i * 4 + 1)
  have hf2 := hfz (i * 4 + 2)
  have hf3 := hfz (i * 4 + 3)
  clear hc hfz
  go_simp
  refine hK _ _ ⟨(fun b => S b ∨ s' b), dw_four (o := i * 4) (a := .int .i64 wd) (b := .int .i64 dp) (c := .int .i64 s) (d := .slice (some ⟨ρ.f g', 0, none⟩) n c') (fun e h1 h2 => ?_) (fun e he => ?_), ?_⟩
  · have : e / 4 = i := by omega
    rw [this]; exact hJ.2.2.1
  · have hm := mem_listed he
    simp [go_sem, storedEv, *] at hm
    rcases hm with rfl | rfl | rfl | rfl
    · exact ⟨i * 4, by omega, by omega, rfl⟩
    · exact ⟨i * 4 + 1, by omega, by omega, rfl⟩
    · exact ⟨i * 4 + 2, by omega, by omega, rfl⟩
    · exact ⟨i * 4 + 3, by omega, by omega, rfl⟩
  clear hK K
  have hfin := jc_store (cc := c') hF.1 hW.s (fun _ h => .inl h) hlo' hF.2 hCS ⟨_, _, _, hC2, hszC⟩
  rw [Nat.mul_comm 4 i] at hfin
  unfold four at hfin
  clear hx0 hx1 hx2 hx3 hf0 hf1 hf2 hf3 hC2 hszC
  replace hF := hfin
  clear hfin
  generalize (((w₂.setCell _ _).setCell _ _).setCell _ _).setCell _ _ = w₃ at hF ⊢
  have rl2 : ∀ {a b : World}, JC Shun C w0 wd dp s n xss k j (i + k) (fun b => S b ∨ s' b) a → RW link.tWg Wg C (fun e => e / 4 % k = j) Rd (fun b => S b ∨ s' b) a b → JC Shun C w0 wd dp s n xss k j (i + k) (fun b => S b ∨ s' b) b := fun h r => h.rely hR r
  refine gw_last (n := 6) ?_
  (u_in rl2 hF; rw [stepG_region_end]; simp only [goes_go]; refine ⟨by (refine de1_none ?_; intro e he; simp at he), ?_⟩)
  (u_in rl2 hF; rw [stepG_end]; simp only [goes_go]; refine ⟨by (refine de1_none ?_; intro e he; simp at he), ?_⟩)
  (u_in rl2 hF; refine goes_leave0 rfl rfl Try.func90 rfl ⟨by (refine de1_none ?_; intro e he; simp at he), ?_⟩; walk_nrm)
  exact Goes.stop fun w₁ h₁ => ⟨rfl, rl2 hF h₁⟩
/-- ████ .. AS sharedWork ASKS FOR IT. ████ -/
theorem cs_task (I : CellIn Shun w0 wd dp s n g AL cL xss C bo bl bm) (hk : 1 ≤ k ∧ k < 65536) (hWg : w0.heap.size ≤ Wg) (b1 b2 b3 : Nat) :
    Task Wg C b1 b2 b3 xss.length k 90 #[ptr bo, ptr bl, ptr bm] (fun b => FreeB Shun w0 b ∧ b ≠ C) (fun j e => e / 4 % k = j) (U0 Shun C w0) (fun j i S w => JC Shun C w0 wd dp s n xss k j i S w) (fun j S w => FactC w0.heap.size C wd dp s n xss k j S w) where
  hn := by have := I.l16; omega
  hk := hk
  fn := ⟨_, _, Try.func90, nm_cs, cs_body⟩
  hU := fun a b ht hx hC h => ⟨⟨ht.1.trans h.1.1, ht.2.1.trans h.1.2.1, ht.2.2.trans h.1.2.2⟩, fun y hy hyC => (hx y ⟨hy, hyC⟩).trans (h.2.1 y hy hyC), h.2.2.trans hC⟩
  hJ := fun j Rd i S a b hR r h => h.rely hR r
  hF := fun j S a b hS hC h => ⟨h.1, h.2.stay hS hC (fun o ho e he => by subst he; exact ho.2) fun _ h => h⟩
  h0 := fun j w hj hU => ⟨hU, fun b hb => hb.elim, Nat.mod_eq_of_lt hj, fun _ => 0, fun _ => 0, fun o ho => (by
    have h1 := ho.1
    have h2 := ho.2
    rw [Nat.mod_eq_of_lt (by omega)] at h2
    omega), fun o o' h h' _ => (by
    have h1 := h.1
    have h2 := h.2
    rw [Nat.mod_eq_of_lt (by omega)] at h2
    omega)⟩
  hend := fun j i S w hi h => ⟨h.2.1, h.2.2.2.sub fun o ho => ⟨by omega, ho.2⟩⟩
  hdo := fun j hj Rd bw bf b1 hR i S w b a ops xx rest kk cs hi hI hJ => cs_do I hk.1 hWg hR hi hI.geo hJ b a ops xx rest kk cs
end
end Go.Proofs.Ytmmolicodlmlkaa.Ph
namespace Go.Proofs.Ytmmolicodlmlkaa.Ph
open Go.Conc Go.ConcN Go.RowKit Go.Conc.Lib Go.ConcR.Gen Go.ConcN.Gen
open Go.ConcR (KK wgBlock WgAt stA smA rd wr mk DC0 Payload)
open Go.Proofs.Ytmmolicodlmlkaa.Rel
set_option linter.unusedVariables false
set_option linter.unusedSimpArgs false

def cpFs : FuncId → Bool := fun f => [37, 43, 63, 65, 79, 80, 88, 89, 97, 98, 105, 123, 124, 129, 131, 139].contains f
theorem cpFs_0 : fnOk Try.prog cpFs Try.f37 = true := by kernel_rfl
theorem cpFs_1 : fnOk Try.prog cpFs Try.f43 = true := by kernel_rfl
theorem cpFs_2 : fnOk Try.prog cpFs Try.f63 = true := by kernel_rfl
theorem cpFs_3 : fnOk Try.prog cpFs Try.f65 = true := by kernel_rfl
theorem cpFs_4 : fnOk Try.prog cpFs Try.f79 = true := by kernel_rfl
theorem cpFs_5 : fnOk Try.prog cpFs Try.f80 = true := by kernel_rfl
theorem cpFs_6 : fnOk Try.prog cpFs Try.f88 = true := by kernel_rfl
theorem cpFs_7 : fnOk Try.prog cpFs Try.f89 = true := by kernel_rfl
theorem cpFs_8 : fnOk Try.prog cpFs Try.f97 = true := by kernel_rfl
theorem cpFs_9 : fnOk Try.prog cpFs Try.f98 = true := by kernel_rfl
theorem cpFs_10 : fnOk Try.prog cpFs Try.f105 = true := by kernel_rfl
theorem cpFs_11 : fnOk Try.prog cpFs Try.f123 = true := by kernel_rfl
theorem cpFs_12 : fnOk Try.prog cpFs Try.f124 = true := by kernel_rfl
theorem cpFs_13 : fnOk Try.prog cpFs Try.f129 = true := by kernel_rfl
theorem cpFs_14 : fnOk Try.prog cpFs Try.f131 = true := by kernel_rfl
theorem cpFs_15 : fnOk Try.prog cpFs Try.f139 = true := by kernel_rfl
theorem cpFs_ok : ∀ f, cpFs f = true → ∃ fn, Try.prog.funcs[f]? = some fn ∧ fnOk Try.prog cpFs fn = true := by
  intro f hf
  simp [cpFs] at hf
  rcases hf with rfl | rfl | rfl | rfl | rfl | rfl | rfl | rfl | rfl | rfl | rfl | rfl | rfl | rfl | rfl | rfl
  · exact ⟨_, Try.func37, cpFs_0⟩
  · exact ⟨_, Try.func43, cpFs_1⟩
  · exact ⟨_, Try.func63, cpFs_2⟩
  · exact ⟨_, Try.func65, cpFs_3⟩
  · exact ⟨_, Try.func79, cpFs_4⟩
  · exact ⟨_, Try.func80, cpFs_5⟩
  · exact ⟨_, Try.func88, cpFs_6⟩
  · exact ⟨_, Try.func89, cpFs_7⟩
  · exact ⟨_, Try.func97, cpFs_8⟩
  · exact ⟨_, Try.func98, cpFs_9⟩
  · exact ⟨_, Try.func105, cpFs_10⟩
  · exact ⟨_, Try.func123, cpFs_11⟩
  · exact ⟨_, Try.func124, cpFs_12⟩
  · exact ⟨_, Try.func129, cpFs_13⟩
  · exact ⟨_, Try.func131, cpFs_14⟩
  · exact ⟨_, Try.func139, cpFs_15⟩

theorem cp_spine4 : spineOk Try.prog ⟨cpFs, fun _ => false, fun _ => false, fun _ => false⟩ 4 csCode = true := by kernel_rfl
theorem cp_spine3 : spineOk Try.prog ⟨cpFs, fun _ => false, fun _ => false, fun _ => false⟩ 3 csCode = true := by kernel_rfl
theorem cp_body : Try.f28.body = some csCode := rfl
set_option maxRecDepth 100000 in
theorem cp_enter (a0 a1 a2 : Int) (A : Option Addr) (n c : Nat) (kw : Int) : Frame.enter Try.prog 28 #[.int .i64 a0, .int .i64 a1, .int .i64 a2, .slice A n c, .int .i64 kw] .normal = (base 28).at (actCS a0 a1 a2 A n c kw) [.code csCode] := by
  rw [enter_at _ Try.func28 cp_body]
  kernel_rfl
theorem cp_results : Try.f28.results.all resOk = true := by kernel_rfl
noncomputable def cp5 : Array Oper := match Try.f28.body with | some (.seq _ (.seq _ (.seq _ (.seq _ (.seq (.region _ ops _) _))))) => ops | _ => #[]
noncomputable def cpTail : Code := match Try.f28.body with | some (.seq _ (.seq _ (.seq _ (.seq _ (.seq _ c))))) => c | _ => .skip
section
variable {F : Nat → Prop} {w : World} {a0 a1 a2 : Int} {A : Option Addr} {c n : Nat} {xss : List (List Int)} {kw : Int} {cs : List Frame} {b₀ : Frame} {a₀ : Act} {ops₀ : Array Oper} {i₀ : Nat} {rest₀ : List Nat} {k₀ : List Item}
theorem cp_args (hF : ∀ b, F b → b < w.heap.size) (hA : ArgP F w A) (n : Nat) : ∀ z ∈ (actCS a0 a1 a2 A n c kw).tmps, okV (fnsQ cpFs w F No) w.heap.size z = true := by
  intro z hz
  simp at hz
  rcases hz with rfl | rfl | rfl | rfl | rfl | rfl
  · simp
  · simp
  · simp
  · cases A with
    | none => simp
    | some a =>
      rw [okV_sliceA _ _ _ _ (hA a rfl).2.2]
      exact fnsQ_ok hF (hA a rfl).1 (hA a rfl).2.1
  · simp
  · exact okV_undef _ _
theorem cp_lone (hF : ∀ b, F b → b < w.heap.size) (hA : SSr F w A xss) : RdLL (loneW (fnsQ cpFs w F No) w) A xss := by
  intro o ho
  have okA : ∀ {B : Option Addr} (m cc : Nat), ArgP F w B → okV (fnsQ cpFs w F No) w.heap.size (.slice B m cc) = true := fun {B} m cc hB => by
    cases B with
    | none => simp
    | some a =>
      rw [okV_sliceA _ _ _ _ (hB a rfl).2.2]
      exact fnsQ_ok hF (hB a rfl).1 (hB a rfl).2.1
  obtain ⟨C, k, R, cc, e1, e2, e3, e4⟩ := hA.2 o ho
  have lt := fun b h => hF b h
  have hc := loneW_any (Fs := fnsQ cpFs w F No) (a := ⟨C, k + o, none⟩) e2 rfl (fnsQ_old (lt _ (hA.1 _ e1).1) (hA.1 _ e1).1 (hA.1 _ e1).2.1) (fnsQ_no (lt _ (hA.1 _ e1).1))
  rcases e4 with e4 | ⟨e4, rfl⟩
  · exact ⟨C, k, R, cc, e1, hc.trans (by rw [absV_same _ (okA _ _ e4)]),
      rdl_look e3 (fun _ => by simp) fun b o _ e => ⟨rfl, fnsQ_old (lt _ (e4 _ e).1) (e4 _ e).1 (e4 _ e).2.1, fnsQ_no (lt _ (e4 _ e).1)⟩⟩
  · rw [e4] at hc
    obtain ⟨R', h'⟩ := absV_empty (Fs := fnsQ cpFs w F No) (B := w.heap.size) R
    exact ⟨C, k, R', 0, e1, by rw [e4]; exact hc.trans (congrArg some h'), by rw [e4]; intro i hi; simp at hi⟩
theorem cp_no (hF : ∀ b, F b → b < w.heap.size) (hG : Try.prog.globals.size ≤ w.heap.size) (h0 : W64 a0) (h1 : W64 a1) (h2 : W64 a2) (hx : SSr F w A xss) (hg : gateCS a0 a1 a2 xss kw = false) :
    GL Try.prog (fun t g w' => g = G (b₀.at (a₀.put ((ops₀[i₀]?).bind (·.dst)) noCs) (.inRegion ops₀ rest₀ :: k₀)) cs ∧ LK [] F w t w') F
      (G (Frame.enter Try.prog 28 #[.int .i64 a0, .int .i64 a1, .int .i64 a2, .slice A xss.length c, .int .i64 kw] .normal) (b₀.at a₀ (.inRegion ops₀ (i₀ :: rest₀) :: k₀) :: cs)) w := by
  rw [cp_enter]
  have h1 := gl_back (b₀ := b₀) (a₀ := a₀) (ops₀ := ops₀) (i₀ := i₀) (rest₀ := rest₀) (k₀ := k₀) (cs := cs) (fun b h => h.elim) (gl_ret (P := Try.prog) (fs := cpFs) (v := w) (F := F) (W := No) (f := 28) (c := csCode) (n := 3) (a := actCS a0 a1 a2 A xss.length c kw) (Q := fun u w' => u = noCs) (fun b h => h.elim) hF zero_ok hG cpFs_ok
    Try.func28 cp_results cp_spine3 rfl (cp_args hF hx.1 _) (fun τ => by
      have := cs_rets a0 a1 a2 A c xss kw { loneW (fnsQ cpFs w F No) w with tape := τ, drawn := 0 } h0 h1 h2 (cp_lone hF hx) hg
      unfold Rets at this ⊢
      exact Code.wp_mono (fun e a w' ⟨h1, h2, fn, v, h3, h4, h5, _⟩ => ⟨h1, h2, fn, v, h3, h4, h5⟩) this))
  refine Go1.widen h1 ?_
  rintro t g w' ⟨s, rfl, ρ, u, wl, rfl, rfl, hok, hL⟩
  refine ⟨by simp [noCs], lk_left hF hL⟩
set_option maxRecDepth 100000 in
set_option maxHeartbeats 4000000 in
/-- To the call of sharedWork. -/
theorem cp_gl (hF : ∀ b, F b → b < w.heap.size) (hG : Try.prog.globals.size ≤ w.heap.size) (h0 : W64 a0) (h1 : W64 a1) (h2 : W64 a2) (hx : SSr F w A xss) (hg : gateCS a0 a1 a2 xss kw = true) (hn : (n : Int) = a0 * a1) :
    GL Try.prog (fun t g w' => ∃ T bl br bo bm C g0 cells, cells.size = 4 * xss.length ∧ bl ≠ C ∧ br ≠ C ∧ bo ≠ C ∧ bm ≠ C ∧ g0 ≠ C ∧ bl ≠ g0 ∧ br ≠ g0 ∧ bo ≠ g0 ∧ bm ≠ g0 ∧ bo ≠ br ∧ bm ≠ br ∧ bl ≠ br ∧
      g = G (Frame.enter Try.prog 81 #[.int .i64 xss.length, .int .i64 kw, .func (.func 90) #[] #[ptr bo, ptr bl, ptr bm]] .normal)
        ((base 28).at ⟨arrCS T kw bl br bo bm, []⟩ [.inRegion cp5 [4], .code cpTail] :: cs) ∧
      LK [(bl, #[.slice A xss.length c], 29), (br, #[.int .i64 0, .int .i64 0, .int .i64 0, .slice none 0 0], 37), (bo, #[.int .i64 a0, .int .i64 a1, .int .i64 a2, .slice (some ⟨g0, 0, none⟩) n n], 37), (bm, #[.slice (some ⟨C, 0, none⟩) xss.length xss.length], 78), (C, cells, 37), (g0, ((List.replicate n (0 : Int)).map (Value.int .i64)).toArray, 2)] F w t w') F
      (G (Frame.enter Try.prog 28 #[.int .i64 a0, .int .i64 a1, .int .i64 a2, .slice A xss.length c, .int .i64 kw] .normal) cs) w := by
  rw [cp_enter]
  have hcut := gl_cut (P := Try.prog) (fs := cpFs) (v := w) (F := F) (W := No) (cs := cs) (f := 28) (c := csCode) (n := 4) (a := actCS a0 a1 a2 A xss.length c kw) (Pre := PreCS a0 a1 a2 A c xss kw n w.heap.size) (fun b h => h.elim) hF zero_ok hG cpFs_ok cp_spine4 rfl (cp_args hF hx.1 _) (fun τ => by
    have := cs_reach a0 a1 a2 A c xss kw n { loneW (fnsQ cpFs w F No) w with tape := τ, drawn := 0 } h0 h1 h2 (cp_lone hF hx) hg hn
    have e : ({ loneW (fnsQ cpFs w F No) w with tape := τ, drawn := 0 } : World).heap.size = w.heap.size := loneW_size
    rw [e] at this
    exact this)
  refine Go1.bind (fun _ a => RS.refl a) hcut ?_
  rintro t g w' ⟨s, rfl, ρ, a', wl, rfl, ⟨bl, br, bo, bm, C, g0, hd, ht, l1, l2, l3, l4, l5, l6, n1, n2, n3, n4, n5, n6, n7, n8, n9, n10, n11, n12, q1, q2, q3, q4, ⟨cells, q5, q6⟩, q7⟩, hok, hL⟩
  have hnew : ∀ b, w.heap.size ≤ b → (fnsQ cpFs w F No).al b = true := fun b hb => (fnsOf_new hb).1
  have ea : A.map (renS ρ) = A := by
    have hB := hx.1
    cases A with
    | none => rfl
    | some a =>
      have := hL.id a.block (hF _ (hB a rfl).1)
      rw [Option.map_some, renS_none _ (hB a rfl).2.2]
      simp only [renA, this]
  have hK : LK [(ρ.f bl, #[.slice A xss.length c], 29), (ρ.f br, #[.int .i64 0, .int .i64 0, .int .i64 0, .slice none 0 0], 37), (ρ.f bo, #[.int .i64 a0, .int .i64 a1, .int .i64 a2, .slice (some ⟨ρ.f g0, 0, none⟩) n n], 37), (ρ.f bm, #[.slice (some ⟨ρ.f C, 0, none⟩) xss.length xss.length], 78), (ρ.f C, cells.map (ren ρ), 37), (ρ.f g0, ((List.replicate n (0 : Int)).map (Value.int .i64)).toArray, 2)] F w (fun b => (F b ∧ ¬ No b) ∨ s b) w' := by
    have lt : ∀ {b : Nat} {o : Obj}, wl.heap[b]? = some o → b < wl.heap.size := fun h => (Array.getElem?_eq_some_iff.1 h).1
    have p1 := (left_blk hL (hnew _ l1) q1).1
    have p2 := (left_blk hL (hnew _ l2) q2).1
    have p3 := (left_blk hL (hnew _ l3) q3).1
    have p4 := (left_blk hL (hnew _ l4) q4).1
    have p5 := (left_blk hL (hnew _ l5) q5).1
    have p6 := (left_blk hL (hnew _ l6) q7).1
    rw [ints_ren (fun v hv => by simp at hv; exact ⟨0, hv.2⟩)] at p6
    simp only [List.map_toArray, List.map_cons, List.map_nil, ren_slice, ren_int, ea, Option.map_some, Option.map_none, renS_lit, renA] at p1 p2 p3 p4
    have m1 := left_new hL l1 (lt q1)
    have m2 := left_new hL l2 (lt q2)
    have m3 := left_new hL l3 (lt q3)
    have m4 := left_new hL l4 (lt q4)
    have m5 := left_new hL l5 (lt q5)
    have m6 := left_new hL l6 (lt q7)
    have h0 := lk_left hF hL
    refine ⟨h0.size, fun p hp => ?_, h0.sub, h0.s0, h0.low, h0.new, h0.old, h0.tape, h0.os, h0.output⟩
    simp only [List.mem_cons, List.not_mem_nil, or_false] at hp
    rcases hp with rfl | rfl | rfl | rfl | rfl | rfl
    · exact ⟨.inr m1.1, m1.2, p1⟩
    · exact ⟨.inr m2.1, m2.2, p2⟩
    · exact ⟨.inr m3.1, m3.2, p3⟩
    · exact ⟨.inr m4.1, m4.2, p4⟩
    · exact ⟨.inr m5.1, m5.2, p5⟩
    · exact ⟨.inr m6.1, m6.2, p6⟩
  have inj : ∀ {a b : Nat}, a ≠ b → ρ.f a ≠ ρ.f b := fun h e => h (ρ.inj _ _ e)
  have hsz : (cells.map (ren ρ)).size = 4 * xss.length := by simpa using q6
  have z1 := inj n1
  have z2 := inj n2
  have z3 := inj n3
  have z4 := inj n4
  have z5 := inj n5
  have z6 := inj n6
  have z7 := inj n7
  have z8 := inj n8
  have z9 := inj n9
  have z10 := inj n10
  have z11 := inj n11
  have z12 := inj n12
  rw [ht]
  generalize (fun i => a'.tmps.getD i undef) = T
  simp only [arrCS, List.map_toArray, List.map_cons, List.map_nil, ren_pointer, ren_int, ren_bool, Option.map_some, renS_lit, renA]
  generalize cells.map (ren ρ) = cells at hK hsz
  generalize ρ.f bl = bl at hK z1 z6 z12 ⊢
  generalize ρ.f br = br at hK z2 z7 z10 z11 z12 ⊢
  generalize ρ.f bo = bo at hK z3 z8 z10 ⊢
  generalize ρ.f bm = bm at hK z4 z9 z11 ⊢
  generalize ρ.f C = C at hK z1 z2 z3 z4 z5
  generalize ρ.f g0 = g0 at hK z5 z6 z7 z8 z9
  generalize ren ρ = rr
  clear hok hL q1 q2 q3 q4 q5 q6 q7 ea inj hcut hnew n1 n2 n3 n4 n5 n6 n7 n8 n9 n10 n11 n12 l1 l2 l3 l4 l5 l6 ht hd hx
  have hF0 := hF
  clear hF
  have hF := hK
  clear hK
  generalize (fun b => (F b ∧ ¬ No b) ∨ s b) = S at hF ⊢
  have rl : ∀ {own : List (Nat × Array Value × TypeId)} {a b : World}, LK own F w S a → RS No S a b → LK own F w S b := fun h r => h.rely r
  refine gl_go (n := 40) ?_
  simp only [csCode, Try.f28, cut]
  (u_in rl hF; rw [stepG_seq]; simp only [goes_go]; refine ⟨by (refine de1_none ?_; intro e he; simp at he), ?_⟩)
  (u_in rl hF; rw [stepG_region]; simp only [goes_go, List.size_toArray, List.length_cons, List.length_nil, Nat.reduceAdd, Nat.zero_add, List.range, List.range.loop]; refine ⟨by (refine de1_none ?_; intro e he; simp at he), ?_⟩)
  g_opw rl hF [(hF.cell (b := bl) (c := #[.slice A xss.length c]) (t := 29) (by simp) 0).trans rfl] rfl (.inl ⟨_, rfl, .inl (hF.own (bl, #[.slice A xss.length c], 29) (by simp)).1, rfl⟩)
  u_in rl hF
  refine goes_oper_k rfl rfl (by k_ne) (fun K hK => ?_)
  go_simp
  refine hK _ _ ⟨?_, ?_⟩
  · refine de1_none ?_
    intro e he
    have hm := mem_listed he
    simp [go_sem, *] at hm
  clear hK K
  try w_num
  u_in rl hF
  refine goes_oper_k rfl rfl (by k_ne) (fun K hK => ?_)
  go_simp
  refine hK _ _ ⟨?_, ?_⟩
  · refine de1_none ?_
    intro e he
    have hm := mem_listed he
    simp [go_sem, *] at hm
  clear hK K
  try w_num
  u_in rl hF
  refine goes_oper_k rfl rfl (by k_ne) (fun K hK => ?_)
  go_simp
  refine hK _ _ ⟨?_, ?_⟩
  · refine de1_none ?_
    intro e he
    have hm := mem_listed he
    simp [go_sem, *] at hm
  clear hK K
  try w_num
  u_in rl hF
  refine goes_call rfl rfl (by k_ne) rfl Try.func81 nm_shared rfl ⟨by (refine de1_none ?_; intro e he; simp at he), ?_⟩
  rw [← enter_at _ Try.func81 rfl]
  refine Goes.stop fun w₁ h₁ => Go1.stop fun w₂ h₂ => ?_
  refine ⟨fun i => Array.getD #[rr (T 0), rr (T 1), rr (T 2), rr (T 3), rr (T 4), rr (T 5), rr (T 6), rr (T 7), rr (T 8), rr (T 9), rr (T 10), rr (T 11), rr (T 12), rr (T 13), rr (T 14), rr (T 15), rr (T 16), rr (T 17), rr (T 18), rr (T 19), rr (T 20), rr (T 21), rr (T 22), rr (T 23), rr (T 24), rr (T 25), rr (T 26), rr (T 27), rr (T 28), rr (T 29), rr (T 30), rr (T 31), rr (T 32), rr (T 33), rr (T 34), rr (T 35), rr (T 36), rr (T 37), rr (T 38), rr (T 39), rr (T 40), rr (T 41), rr (T 42), rr (T 43), rr (T 44), rr (T 45), rr (T 46), rr (T 47), rr (T 48), rr (T 49), rr (T 50), .slice A xss.length c, .int .i64 xss.length, .int .i64 kw, .func (.func 90) #[] #[ptr bo, ptr bl, ptr bm], rr (T 55), rr (T 56), rr (T 57), rr (T 58), rr (T 59), rr (T 60), rr (T 61), rr (T 62), rr (T 63), rr (T 64), rr (T 65), rr (T 66), rr (T 67), rr (T 68), rr (T 69), rr (T 70), rr (T 71), rr (T 72), rr (T 73), rr (T 74), rr (T 75), rr (T 76), rr (T 77), rr (T 78), rr (T 79), rr (T 80)] i undef, bl, br, bo, bm, C, g0, cells, hsz, z1, z2, z3, z4, z5, z6, z7, z8, z9, z10, z11, z12, by kernel_rfl, rl (rl hF h₁) h₂⟩
end
end Go.Proofs.Ytmmolicodlmlkaa.Ph
namespace Go.Proofs.Ytmmolicodlmlkaa.Ph
open Go.Conc Go.ConcN Go.RowKit
open Go.Proofs.Ytmmolicodlmlkaa.Rel
set_option linter.unusedVariables false
set_option linter.unusedSimpArgs false

noncomputable def csTail : Code := match Try.f28.body with | some (.seq _ (.seq _ (.seq _ (.seq _ (.seq _ c))))) => c | _ => .skip
abbrev yesCs (wd dp s g n : Nat) : Value := .tuple #[.agg #[.int .i64 wd, .int .i64 dp, .int .i64 s, .slice (some ⟨g, 0, none⟩) n n], .bool true]
theorem cs_results {arr : Array Value} {w : World} {br : Nat} {b : Bool} {v0 v1 v2 v3 : Value} (h10 : arr[10]? = some (ptrB br)) (h11 : arr[11]? = some (.bool b)) (d0 : w.cell? ⟨br, 0, none⟩ = some v0) (d1 : w.cell? ⟨br, 1, none⟩ = some v1) (d2 : w.cell? ⟨br, 2, none⟩ = some v2) (d3 : w.cell? ⟨br, 3, none⟩ = some v3) :
    (results Try.f28 arr).run Try.prog w = .ok (.tuple #[.agg #[v0, v1, v2, v3], .bool b]) w := by
  simp [results, Try.results28, go_sem, h10, h11, d0, d1, d2, d3]
set_option maxRecDepth 100000 in
set_option maxHeartbeats 8000000 in
theorem cs_ends (T : Nat → Value) (kw : Int) (wd dp s n nn C g bl br bo bm : Nat) (xss : List (List Int)) (R cc : Nat → Nat) (v0 v1 v2 v3 : Value) (w : World) (hnn : nn = xss.length) (hn16 : nn ≤ 16) (hn : n = wd * dp) (hn1 : n ≤ 384) (hd2 : dp ≤ 6) (hkeys : ∀ x ∈ xss, keysQ x = true)
    (hm : w.cell? ⟨bm, 0, none⟩ = some (.slice (some ⟨C, 0, none⟩) nn nn)) (h4 : ∀ o, o < nn → Four w C o wd dp s n (R o) (cc o) ∧ RdL (Value.int .i64) w (some ⟨R o, 0, none⟩) (madeC wd s dp xss o) ∧ R o ≠ g) (hbo : Blk w bo 37 [.int .i64 wd, .int .i64 dp, .int .i64 s, .slice (some ⟨g, 0, none⟩) n n])
    (hg : Blk w g 2 ((List.replicate n (0 : Int)).map (Value.int .i64))) (hbr : Blk w br 37 [v0, v1, v2, v3]) (n1 : C ≠ g) (n2 : bo ≠ g) (n3 : bm ≠ g) (n4 : br ≠ g) (n5 : bo ≠ br) :
    Rel.Ends Try.prog 28 csTail (fun u w' => u = yesCs wd dp s g n ∧ Blk w' g 2 ((sumC wd s dp xss nn).map (Value.int .i64))) ⟨arrCS T kw bl br bo bm, []⟩ w := by
  have H4 := hid h4
  have HBO := hid hbo
  have HBR := hid hbr
  have HN := hid hn
  have HM := hid hm
  have HK : Hid (∀ x ∈ xss, x.length ≤ 256) := fun x hx => (keysQ_iff (hkeys x hx)).1
  have HG : Hid (OwnE [] w 0 2 (some ⟨g, 0, none⟩) (sumC wd s dp xss 0)) := ⟨g, rfl, Nat.zero_le _, by
    rw [List.append_nil]
    show Blk w g 2 ((List.replicate (wd * dp) (0 : Int)).map (Value.int .i64))
    rw [← hn]; exact hg⟩
  clear h4 hbo hbr hn hg hkeys hnn
  have hgl : g < w.heap.size := by obtain ⟨x, e1, _, e3⟩ := HG.out; cases e1; exact e3.lt
  have hbrl := HBR.out.lt
  have hbol := HBO.out.lt
  simp only [csTail, Try.f28, Rel.Ends]
  go_wp2
  go_loopw [58] (fun j wr => ∃ k : Nat, k ≤ nn ∧ j = .int .i64 k ∧ Hid (OwnE [] wr 0 2 (some ⟨g, 0, none⟩) (sumC wd s dp xss k)) ∧ Hid (TouchAll w wr [(some ⟨g, 0, none⟩, n)])) (fun j _ => nn - (intOf j).toNat)
  case atStart => exact ⟨0, Nat.zero_le _, rfl, HG, touch_all_refl⟩
  case round =>
    obtain ⟨k, hkr, rfl, hok, hT⟩ := hrel
    have Q3 := hid (HBO.out.touches hT.out (by omega))
    have R3 := hid (HBR.out.touches hT.out (by omega))
    have hgr : g < wr.heap.size := by have := hT.out.size; omega
    have hsr := hT.out.size
    clear hm
    by_cases hlt : k < nn
    · have hj : (k : Int) < (nn : Int) := by omega
      obtain ⟨hf4, hrd, hRg⟩ := H4.out k hlt
      obtain ⟨c0, c1, c2, c3⟩ := hf4
      rw [Nat.mul_comm] at c0 c1 c2 c3
      have z0 := cell_touches c0 hT.out (by simp; omega)
      have z1 := cell_touches c1 hT.out (by simp; omega)
      have z2 := cell_touches c2 hT.out (by simp; omega)
      have z3 := cell_touches c3 hT.out (by simp; omega)
      have HRD := hid hrd
      have hlS := sumC_length wd s dp xss k
      have hlM := madeC_length wd s dp xss k
      rw [← HN.out] at hlS hlM
      have hbS := hid (sumC_bound (wd := wd) (s := s) (xss := xss) hd2 HK.out k)
      have hbM := hid (madeC_bound (wd := wd) (s := s) (xss := xss) (o := k) hd2 HK.out)
      have hS1 : Hid (sumC wd s dp xss (k + 1) = addL (sumC wd s dp xss k) (madeC wd s dp xss k)) := rfl
      generalize sumC wd s dp xss k = y at hok hlS hbS hS1
      generalize madeC wd s dp xss k = z at HRD hlM hbM hS1
      have HLS := hid hlS
      have HLM := hid hlM
      clear c0 c1 c2 c3 hrd hlS hlM
      go_wp2
      generalize wr = wr0 at *
      clear wr
      have O3 := hid (hok.out.below (below_a1 wr0 (.cells #[.int .i64 wd, .int .i64 dp, .int .i64 s, .slice (some ⟨R k, 0, none⟩) n (cc k)] 37)))
      have Q4 := hid (Q3.out.alloc (.cells #[.int .i64 wd, .int .i64 dp, .int .i64 s, .slice (some ⟨R k, 0, none⟩) n (cc k)] 37))
      have T3 : Hid (TouchAll w (wr0.alloc (.cells #[.int .i64 wd, .int .i64 dp, .int .i64 s, .slice (some ⟨R k, 0, none⟩) n (cc k)] 37)) [(some ⟨g, 0, none⟩, n)]) := touch_all2 hT.out (TouchAll.alloc _ _ _)
      have hRr := hRg
      clear hok hT Q3 R3 z0 z1 z2 z3
      go_loopw [65] (fun j wr => ∃ m : Nat, m ≤ n ∧ j = .int .i64 m ∧ Hid (OwnE [] wr 0 2 (some ⟨g, 0, none⟩) (fillUp m (addL y z) y)) ∧ Hid (Touch (wr0.alloc (.cells #[.int .i64 wd, .int .i64 dp, .int .i64 s, .slice (some ⟨R k, 0, none⟩) n (cc k)] 37)) wr (some ⟨g, 0, none⟩) n)) (fun j _ => n - (intOf j).toNat)
      case atStart => exact ⟨0, Nat.zero_le _, rfl, by rw [fillUp_zero]; exact O3, Touch.refl⟩
      case round =>
        obtain ⟨m, hmr, rfl, hom, hTm⟩ := hrel
        have hls := HLS.out
        have hlm := HLM.out
        by_cases hlm' : m < n
        · have him : (m : Int) < (n : Int) := by omega
          have him0 : (0 : Int) ≤ (m : Int) := by omega
          have hTA : TouchAll w wr [(some ⟨g, 0, none⟩, n)] := touch_all2 T3.out (TouchAll.of_touch hTm.out)
          obtain ⟨b3, o3, p, hA3, hcp0, hpk⟩ := HRD.out.at_ (k := m) (by omega)
          injection hA3 with hA3
          injection hA3 with hA3 hA4
          subst hA3; subst hA4
          have hcp := cell_touches hcp0 hTA (by simp; omega)
          rw [Nat.zero_add] at hcp
          clear hcp0
          have hfl' : (fillUp m (addL y z) y).length = y.length := fillUp_length (by rw [addL_length (by omega)]; omega) (by omega)
          obtain ⟨g2, u, hg', hgB', hcy, hfy, hym, hput⟩ := hom.out.put (j := m) (by omega)
          injection hg' with hg'; injection hg' with hg'
          subst hg'
          have hxu : Hid (y[m]? = some u) := by
            have := hym.out
            rw [fillUp_at (by rw [addL_length (by omega)]; omega)] at this
            exact this
          have hz : Hid ((addL y z)[m]? = some (u + p)) := zipI_at (f := fun a b => a + b) hxu hpk
          have hu := hbS.out u (List.mem_of_getElem? hxu.out)
          have hv := hbM.out p (List.mem_of_getElem? hpk.out)
          have hO2 : Hid (OwnE [] (wr.setCell ⟨g, m, none⟩ (.int .i64 (u + p))) 0 2 (some ⟨g, 0, none⟩) (fillUp (m + 1) (addL y z) y)) := by
            have h := hput (u + p)
            rw [fillUp_step hz (by omega)] at h
            exact h
          have hT2 := hid (hTm.out.set_ (by omega) m (.int .i64 (u + p)))
          have e1 : IntKind.i64.wrap (u + p) = u + p := by rw [IntKind.wrap_i64]; omega
          obtain ⟨q0, q1, q2, q3⟩ := (Q4.out.touch hTm.out (by omega)).cells4
          clear hput hgB' hym hls hlm hu hv q0 q1 q2 hfl' hTA
          go_wp2
          exact ⟨⟨m + 1, by omega, by go_num, hO2, hT2⟩, by simp [intOf]; omega⟩
        · have him : ¬ (m : Int) < (n : Int) := by omega
          have he := hom.out
          rw [show m = n by omega, fillUp_all (by rw [addL_length (by omega)]; exact hls) hls, ← hS1.out] at he
          have O4 := hid he
          have T4 := hid (touch_all2 T3.out (TouchAll.of_touch hTm.out))
          clear he hls hlm
          go_wp2
          exact ⟨⟨k + 1, by omega, by go_num, O4, T4⟩, by simp [intOf]; omega⟩
    · have hj : ¬ (k : Int) < (nn : Int) := by omega
      obtain rfl : k = nn := by omega
      obtain ⟨q0, q1, q2, q3⟩ := Q3.out.cells4
      obtain ⟨d0, d1, d2, d3⟩ := R3.out.cells4
      have f0 := R3.out.frozen 0
      have f1 := R3.out.frozen 1
      have f2 := R3.out.frozen 2
      have f3 := R3.out.frozen 3
      have n5' := Ne.symm n5
      go_wp2
      have hB0 : Blk ((((wr.setCell ⟨br, 0, none⟩ (.int .i64 wd)).setCell ⟨br, 1, none⟩ (.int .i64 dp)).setCell ⟨br, 2, none⟩ (.int .i64 s)).setCell ⟨br, 3, none⟩ (.slice (some ⟨g, 0, none⟩) n n)) br 37 [.int .i64 wd, .int .i64 dp, .int .i64 s, .slice (some ⟨g, 0, none⟩) n n] :=
        (((R3.out.set_ 0 (.int .i64 wd)).set_ 1 (.int .i64 dp)).set_ 2 (.int .i64 s)).set_ 3 (.slice (some ⟨g, 0, none⟩) n n)
      obtain ⟨r0, r1, r2, r3⟩ := hB0.cells4
      refine ⟨yesCs wd dp s g n, cs_results (b := true) rfl rfl r0 r1 r2 r3, rfl, ?_⟩
      obtain ⟨g2, e1, _, e3⟩ := hok.out
      injection e1 with e1
      injection e1 with e1
      subst e1
      rw [List.append_nil] at e3
      exact (((e3.far (Ne.symm n4) _).far (Ne.symm n4) _).far (Ne.symm n4) _).far (Ne.symm n4) _
end Go.Proofs.Ytmmolicodlmlkaa.Ph
namespace Go.Proofs.Ytmmolicodlmlkaa.Ph
open Go.Conc Go.ConcN Go.RowKit Go.Conc.Lib Go.ConcR.Gen Go.ConcN.Gen
open Go.ConcR (KK wgBlock WgAt stA smA rd wr mk DC0 Payload)
open Go.Proofs.Ytmmolicodlmlkaa.Rel
set_option linter.unusedVariables false
set_option linter.unusedSimpArgs false

set_option maxRecDepth 100000 in
theorem abs_arrCS (Fs : Fns) (B : Nat) (T : Nat → Value) (kw : Int) (bl br bo bm : Nat) (h1 : okV Fs B (ptrB bl) = true) (h2 : okV Fs B (ptrB br) = true) (h3 : okV Fs B (ptrB bo) = true) (h4 : okV Fs B (ptrB bm) = true) :
    absA Fs B ⟨arrCS T kw bl br bo bm, []⟩ = ⟨arrCS (fun i => absV Fs B (T i)) kw bl br bo bm, []⟩ := by
  unfold absA arrCS
  simp only [List.map_toArray, List.map_cons, List.map_nil]
  rw [absV_same _ h1, absV_same _ h2, absV_same _ h3, absV_same _ h4, absV_same (.int .i64 kw) (by simp), absV_same (.bool false) (by simp)]
theorem cp_put (T : Nat → Value) (kw : Int) (bl br bo bm : Nat) : Act.put ⟨arrCS T kw bl br bo bm, []⟩ ((cp5[4]?).bind (·.dst)) (.tuple #[]) = ⟨arrCS (fun i => if i = 55 then .tuple #[] else T i) kw bl br bo bm, []⟩ := by kernel_rfl
theorem cpTail_eq : cpTail = csTail := rfl
def ctFs : FuncId → Bool := fun _ => false
theorem ctFs_ok : ∀ f, ctFs f = true → ∃ fn, Try.prog.funcs[f]? = some fn ∧ fnOk Try.prog ctFs fn = true := fun f h => by cases h
theorem cpTail_ok : codeOk Try.prog ⟨ctFs, fun _ => false, fun _ => false, fun _ => false⟩ cpTail = true := by kernel_rfl
theorem cells_join {C wd dp s n k nn : Nat} {xss : List (List Int)} {Sg : Nat → Nat → Prop} {S : Nat → Prop} {w : World} (hk : 1 ≤ k) (h : ∀ j, j < k → CellsIn C wd dp s n xss (fun o => o < nn ∧ o % k = j) (Sg j) w) (hd : ∀ i j b, i < k → j < k → Sg i b → Sg j b → i = j) (hS : ∀ i b, i < k → Sg i b → S b) :
    CellsIn C wd dp s n xss (fun o => o < nn) S w := by
  have hm : ∀ o : Nat, o % k < k := fun o => Nat.mod_lt o (by omega)
  refine ⟨fun o => Classical.choose (h (o % k) (hm o)) o, fun o => Classical.choose (Classical.choose_spec (h (o % k) (hm o))) o, fun o ho => ?_, fun o o' ho ho' hb => ?_⟩
  · obtain ⟨q1, q2, q3, q4⟩ := (Classical.choose_spec (Classical.choose_spec (h (o % k) (hm o)))).1 o ⟨ho, rfl⟩
    exact ⟨q1, q2, hS _ _ (hm o) q3, q4⟩
  · have p1 := ((Classical.choose_spec (Classical.choose_spec (h (o % k) (hm o)))).1 o ⟨ho, rfl⟩).2.2.1
    have p2 := ((Classical.choose_spec (Classical.choose_spec (h (o' % k) (hm o')))).1 o' ⟨ho', rfl⟩).2.2.1
    simp only at hb
    have e := hd _ _ _ (hm o) (hm o') p1 (hb ▸ p2)
    have key : ∀ j (hj : j < k), j = o % k → o' % k = j → Classical.choose (h (o' % k) (hm o')) o' = Classical.choose (h j hj) o' := by
      intro j hj _ e2
      subst e2
      rfl
    have hb2 := hb.trans (key _ (hm o) rfl e.symm)
    exact (Classical.choose_spec (Classical.choose_spec (h (o % k) (hm o)))).2 o o' ⟨ho, rfl⟩ ⟨ho', e.symm⟩ hb2
section
variable {F : Nat → Prop} {w : World} {wd dp s n g C bl br bo bm : Nat} {xss : List (List Int)} {kw : Int} {cs : List Frame} {b₀ : Frame} {a₀ : Act} {ops₀ : Array Oper} {i₀ : Nat} {rest₀ : List Nat} {k₀ : List Item} {T : Nat → Value} {cells : Array Value} {v0 v1 v2 v3 : Int} {Sc : Nat → Prop} {te : TypeId}
set_option maxRecDepth 100000 in
/-- From behind sharedWork to the return. -/
theorem cp_last (hF : ∀ b, F b → b < w.heap.size) (hG : Try.prog.globals.size ≤ w.heap.size) (hn16 : xss.length ≤ 16) (hn : n = wd * dp) (hn1 : n ≤ 384) (hd2 : dp ≤ 6) (hkeys : ∀ x ∈ xss, keysQ x = true)
    (fm : F bm) (qm : w.heap[bm]? = some (.cells #[.slice (some ⟨C, 0, none⟩) xss.length xss.length] 78 (0, 0))) (fC : F C) (qC : w.heap[C]? = some (.cells cells te (0, 0))) (hR : CellsIn C wd dp s n xss (fun o => o < xss.length) Sc w) (hSc : ∀ b, Sc b → F b ∧ b ≠ g ∧ b ≠ br ∧ b ≠ bo)
    (fo : F bo) (qo : w.heap[bo]? = some (.cells #[.int .i64 wd, .int .i64 dp, .int .i64 s, .slice (some ⟨g, 0, none⟩) n n] 37 (0, 0))) (fg : F g) (qg : Blk w g 2 ((List.replicate n (0 : Int)).map (Value.int .i64)))
    (fr : F br) (qr : w.heap[br]? = some (.cells #[.int .i64 v0, .int .i64 v1, .int .i64 v2, .slice none 0 0] 37 (0, 0))) (fl : F bl) (ql : plainO w.heap[bl]? = true)
    (n1 : C ≠ g) (n2 : bo ≠ g) (n3 : bm ≠ g) (n4 : br ≠ g) (n5 : bo ≠ br) (n6 : bm ≠ br) (n7 : bm ≠ bo) (n8 : C ≠ br) (n9 : C ≠ bo) :
    GL Try.prog (fun t gg w' => gg = G (b₀.at (a₀.put ((ops₀[i₀]?).bind (·.dst)) (yesCs wd dp s g n)) (.inRegion ops₀ rest₀ :: k₀)) cs ∧ (∀ y, F y → t y) ∧ (∀ y, t y → y < w'.heap.size) ∧ w.heap.size ≤ w'.heap.size ∧ (∀ y, F y → ¬ (y = g ∨ y = br ∨ y = bo) → w'.heap[y]? = w.heap[y]?) ∧ TW w w' ∧
      w'.heap[g]? = some (.cells ((sumC wd s dp xss xss.length).map (Value.int .i64)).toArray 2 (0, 0))) F
      (G ((base 28).at (Act.put ⟨arrCS T kw bl br bo bm, []⟩ ((cp5[4]?).bind (·.dst)) (.tuple #[])) [.inRegion cp5 [], .code cpTail]) (b₀.at a₀ (.inRegion ops₀ (i₀ :: rest₀) :: k₀) :: cs)) w := by
  rw [cp_put]
  generalize (fun i => if i = 55 then Value.tuple #[] else T i) = T'
  let W : Nat → Prop := fun y => y = g ∨ y = br ∨ y = bo
  have hsub : ∀ y, W y → F y := fun y hy => by rcases hy with rfl | rfl | rfl <;> assumption
  have okB : ∀ y, F y → plainO w.heap[y]? = true → okV (fnsQ ctFs w F W) w.heap.size (ptrB y) = true := fun y h1 h2 => by
    rw [okV_pointer]; exact fnsQ_ok hF h1 h2
  have pm : plainO w.heap[bm]? = true := by rw [qm]; rfl
  have pC : plainO w.heap[C]? = true := by rw [qC]; rfl
  have po : plainO w.heap[bo]? = true := by rw [qo]; rfl
  have pg : plainO w.heap[g]? = true := by rw [show w.heap[g]? = _ from qg]; rfl
  have pr : plainO w.heap[br]? = true := by rw [qr]; rfl
  have okg : okV (fnsQ ctFs w F W) w.heap.size (.slice (some ⟨g, 0, none⟩) n n) = true := by rw [okV_slice]; exact fnsQ_ok hF fg pg
  obtain ⟨R, cc, hR1, hR2⟩ := hR
  have hl : ∀ τ, Rel.Ends Try.prog 28 cpTail (fun u w' => u = yesCs wd dp s g n ∧ Blk w' g 2 ((sumC wd s dp xss xss.length).map (Value.int .i64))) (absA (fnsQ ctFs w F W) w.heap.size ⟨arrCS T' kw bl br bo bm, []⟩) { loneW (fnsQ ctFs w F W) w with tape := τ, drawn := 0 } := by
    intro τ
    rw [abs_arrCS _ _ _ _ _ _ _ _ (okB _ fl ql) (okB _ fr pr) (okB _ fo po) (okB _ fm pm), cpTail_eq]
    refine cs_ends _ kw wd dp s n xss.length C g bl br bo bm xss R cc (.int .i64 v0) (.int .i64 v1) (.int .i64 v2) (.slice none 0 0) _ rfl hn16 hn hn1 hd2 hkeys ?_ (fun o ho => ?_) ?_ ?_ ?_ n1 n2 n3 n4 n5
    · refine loneW_at (a := ⟨bm, 0, none⟩) (by simp [World.cell?, qm]) rfl (fnsQ_old (hF _ fm) fm pm) (fnsQ_rd (hF _ fm) (by rintro (h | h | h); exact n3 h; exact n6 h; exact n7 h)) ?_
      rw [okV_slice]; exact fnsQ_ok hF fC pC
    · obtain ⟨⟨z0, z1, z2, z3⟩, q2, q3, q4⟩ := hR1 o ho
      obtain ⟨e1, e2, e3, e4⟩ := hSc _ q3
      have hwC : (fnsQ ctFs w F W).wr C = false := fnsQ_rd (hF _ fC) (by rintro (h | h | h); exact n1 h; exact n8 h; exact n9 h)
      have hwR : (fnsQ ctFs w F W).wr (R o) = false := fnsQ_rd (hF _ e1) (by rintro (h | h | h); exact e2 h; exact e3 h; exact e4 h)
      have at_ : ∀ p u, w.cell? ⟨C, p, none⟩ = some u → okV (fnsQ ctFs w F W) w.heap.size u = true → (loneW (fnsQ ctFs w F W) w).cell? ⟨C, p, none⟩ = some u := fun p u h1 h2 => loneW_at (a := ⟨C, p, none⟩) h1 rfl (fnsQ_old (hF _ fC) fC pC) hwC h2
      exact ⟨⟨at_ _ _ z0 (by simp), at_ _ _ z1 (by simp), at_ _ _ z2 (by simp), at_ _ _ z3 (by rw [okV_slice]; exact fnsQ_ok hF e1 q4.plain)⟩,
        rdl_look q2.rd (fun _ => by simp) fun b o' _ e => by injection e with e; injection e with e; subst e; exact ⟨rfl, fnsQ_old (hF _ e1) e1 q4.plain, hwR⟩, e2⟩
    · exact loneW_own qo rfl (fnsQ_old (hF _ fo) fo po) (fnsQ_wr (hF _ fo) (.inr (.inr rfl))) (fun z hz => by
        simp at hz
        rcases hz with rfl | rfl | rfl | rfl
        · simp
        · simp
        · simp
        · exact okg)
    · exact loneW_own qg rfl (fnsQ_old (hF _ fg) fg pg) (fnsQ_wr (hF _ fg) (.inl rfl)) (fun z hz => by simp at hz; rw [hz.2]; simp)
    · exact loneW_own qr rfl (fnsQ_old (hF _ fr) fr pr) (fnsQ_wr (hF _ fr) (.inr (.inl rfl))) (fun z hz => by
        simp at hz
        rcases hz with rfl | rfl | rfl | rfl <;> simp)
  have h1 := gl_back (b₀ := b₀) (a₀ := a₀) (ops₀ := ops₀) (i₀ := i₀) (rest₀ := rest₀) (k₀ := k₀) (cs := cs) hsub (gl_endM (P := Try.prog) (fs := ctFs) (v := w) (F := F) (W := W) (f := 28) (c := cpTail) (ops := cp5) (rest := []) hsub hF zero_ok hG ctFs_ok Try.func28 cp_results cpTail_ok rfl rfl fun τ => endsM_of (hl τ))
  refine Go1.widen h1 ?_
  rintro t gg w' ⟨s', rfl, ρ, u, wl, rfl, ⟨rfl, hB⟩, hok, hL⟩
  obtain ⟨p1, p2, p3, p4⟩ := left_state hsub hF hL
  have hid := hL.id g (hF _ fg)
  refine ⟨?_, p1, p2, p3, fun y hy hn => p4 y hy hn, ⟨hL.tape, hL.os, hL.output⟩, ?_⟩
  · simp [yesCs, hid]
  · have := (left_blk hL (fnsQ_old (hF _ fg) fg pg) hB).1
    rw [hid] at this
    rw [this]
    congr 2
    exact ints_ren (fun v hv => by simp at hv; obtain ⟨i, _, rfl⟩ := hv; exact ⟨i, rfl⟩)
end
/-- What impl.CellsShared returns. -/
def CellsRes (Shun' : Loc → Prop) (w0 w' : World) (a0 a1 a2 : Int) (xss : List (List Int)) (kw : Int) (v : Value) : Prop :=
  (gateCS a0 a1 a2 xss kw = false ∧ v = noCs) ∨
  (gateCS a0 a1 a2 xss kw = true ∧ ∃ g wd dp s : Nat, a0 = wd ∧ a1 = dp ∧ a2 = s ∧ v = yesCs wd dp s g (wd * dp) ∧ w0.heap.size ≤ g ∧ FreeB Shun' w' g ∧ w'.heap[g]? = some (.cells ((sumC wd s dp xss xss.length).map (Value.int .i64)).toArray 2 (0, 0)))
section
variable {Shun : Loc → Prop} {w : World} {m : Machine} {t : Trace} {a0 a1 a2 : Int} {A : Option Addr} {c : Nat} {xss : List (List Int)} {kw : Int} {cs : List Frame} {b₀ : Frame} {a₀ : Act} {ops₀ : Array Oper} {i₀ : Nat} {rest₀ : List Nat} {k₀ : List Item}
/-- ████ impl.CellsShared, CALLED AND COME BACK. ████ -/
theorem cells_machine (h : At Try.prog Shun (G (Frame.enter Try.prog 28 #[.int .i64 a0, .int .i64 a1, .int .i64 a2, .slice A xss.length c, .int .i64 kw] .normal) (b₀.at a₀ (.inRegion ops₀ (i₀ :: rest₀) :: k₀) :: cs)) w m t)
    (hG : Try.prog.globals.size ≤ w.heap.size) (h0 : W64 a0) (h1 : W64 a1) (h2 : W64 a2) (hx : SSr (FreeB Shun w) w A xss) :
    ∃ K m' t' w' Shun' v, runNT Try.prog K m t = (.next m', t') ∧ At Try.prog Shun' (G (b₀.at (a₀.put ((ops₀[i₀]?).bind (·.dst)) v) (.inRegion ops₀ rest₀ :: k₀)) cs) w' m' t' ∧ Grow Shun w Shun' w' ∧ CellsRes Shun' w w' a0 a1 a2 xss kw v := by
  cases hg : gateCS a0 a1 a2 xss kw with
  | false =>
    obtain ⟨K, m', t', g', w', S', r1, hAt, ⟨rfl, hK⟩, hfree, _⟩ := h.walk (fun S g w d ⟨e, hF⟩ => ⟨e, hF.at⟩) (cp_no (fun b hb => hb.1) hG h0 h1 h2 hx hg)
    exact ⟨K, m', t', w', Shun, _, r1, hAt, hK.grow hfree, .inl ⟨hg, rfl⟩⟩
  | true =>
    have hg0 := hg
    simp only [gateCS, Bool.and_eq_true, decide_eq_true_eq] at hg0
    obtain ⟨⟨⟨⟨g1, g2⟩, g3⟩, g4⟩, g5⟩ := hg0
    obtain ⟨e0, e1, e2⟩ := sidesB_iff g1
    have f0 : 2 ≤ a0 ∧ a0 ≤ 64 := by simpa [Go.Proofs.Ytmmolicodlmlkaa.inB] using e0
    have f1 : 1 ≤ a1 ∧ a1 ≤ 6 := by simpa [Go.Proofs.Ytmmolicodlmlkaa.inB] using e1
    have f2 : 0 ≤ a2 ∧ a2 ≤ 4294967295 := by simpa [Go.Proofs.Ytmmolicodlmlkaa.inB] using e2
    have f4 : 1 ≤ kw ∧ kw ≤ 8 := by simpa [Go.Proofs.Ytmmolicodlmlkaa.inB] using g4
    obtain ⟨wd, rfl⟩ := Int.eq_ofNat_of_zero_le (show 0 ≤ a0 by omega)
    obtain ⟨dp, rfl⟩ := Int.eq_ofNat_of_zero_le (show 0 ≤ a1 by omega)
    obtain ⟨s, rfl⟩ := Int.eq_ofNat_of_zero_le (show 0 ≤ a2 by omega)
    obtain ⟨k, rfl⟩ := Int.eq_ofNat_of_zero_le (show 0 ≤ kw by omega)
    have hkeys : ∀ x ∈ xss, keysQ x = true := fun x hx => List.all_eq_true.1 g5 x hx
    have hn1 : wd * dp ≤ 384 := by
      calc wd * dp ≤ 64 * 6 := Nat.mul_le_mul (by omega) (by omega)
        _ = 384 := rfl
    obtain ⟨K1, m1, t1, gg, w1, S1, r1, hAt1, ⟨T, bl, br, bo, bm, C, g0, cells, hsz, z1, z2, z3, z4, z5, z6, z7, z8, z9, z10, z11, z12, rfl, hK⟩, hfree, _⟩ :=
      h.walk (fun S g w d ⟨T, bl, br, bo, bm, C, g0, cells, q1, q2, q3, q4, q5, q6, q7, q8, q9, q10, q11, q12, q13, q14, q15⟩ => ⟨T, bl, br, bo, bm, C, g0, cells, q1, q2, q3, q4, q5, q6, q7, q8, q9, q10, q11, q12, q13, q14, q15.at⟩) (cp_gl (n := wd * dp) (fun b hb => hb.1) hG h0 h1 h2 hx hg (by simp))
    obtain ⟨ol1, ol2, ol3⟩ := hK.own (bl, #[.slice A xss.length c], 29) (by simp)
    obtain ⟨or1, or2, or3⟩ := hK.own (br, #[.int .i64 0, .int .i64 0, .int .i64 0, .slice none 0 0], 37) (by simp)
    obtain ⟨oo1, oo2, oo3⟩ := hK.own (bo, #[.int .i64 wd, .int .i64 dp, .int .i64 s, .slice (some ⟨g0, 0, none⟩) (wd * dp) (wd * dp)], 37) (by simp)
    obtain ⟨om1, om2, om3⟩ := hK.own (bm, #[.slice (some ⟨C, 0, none⟩) xss.length xss.length], 78) (by simp)
    obtain ⟨oc1, oc2, oc3⟩ := hK.own (C, cells, 37) (by simp)
    obtain ⟨og1, og2, og3⟩ := hK.own (g0, ((List.replicate (wd * dp) (0 : Int)).map (Value.int .i64)).toArray, 2) (by simp)
    simp only at ol1 ol2 ol3 or1 or2 or3 oo1 oo2 oo3 om1 om2 om3 oc1 oc2 oc3 og1 og2 og3
    have hgrow1 := hK.grow hfree
    have neC : ∀ y, FreeB Shun w y → y ≠ C := fun y hy e => by have := hy.1; omega
    have nmo : bm ≠ bo := fun e => by rw [e, oo3] at om3; simp at om3
    have hx1 : SSr (fun b => FreeB Shun w1 b ∧ b ≠ C) w1 A xss := hx.stay fun y hy => ⟨⟨(hgrow1.old y hy).1, neC y hy⟩, (hgrow1.old y hy).2⟩
    have I : CellIn Shun w1 wd dp s (wd * dp) g0 A c xss C bo bl bm :=
      { glob := Nat.le_trans hG hK.size, w1 := by omega, w2 := by omega, d1 := by omega, d2 := by omega, s32 := by omega, hn := rfl, l16 := by omega, keys := hkeys, lists := hx1,
        hg := ⟨hfree _ og1, z5, og3⟩, ho := ⟨hfree _ oo1, z3, _, oo3⟩, hl := ⟨hfree _ ol1, z1, _, ol3⟩, hm := ⟨hfree _ om1, z4, _, om3⟩, hC := ⟨_, _, oc3, hsz⟩ }
    have hs1 := hAt1.shun
    obtain ⟨K2, m2, t2, w2, Wg, Sg, r2, hAt2, hWg, hU, hsz2, hfact, hSg, hdis⟩ := shared_machine hAt1 (hfree _ oc1) (mine := fun j e => e / 4 % k = j) (J := fun j i S w => JC Shun C w1 wd dp s (wd * dp) xss k j i S w) (Fact := fun j S w => FactC w1.heap.size C wd dp s (wd * dp) xss k j S w) (fun i k o h1 h2 => h1.symm.trans h2) (fun i S w' hF => hF.1)
      (fun Wg b1 b2 b3 hWg => cs_task I ⟨by omega, by omega⟩ hWg b1 b2 b3)
    have free2 : ∀ b, b < w2.heap.size → b ≠ Wg → (b < w1.heap.size → FreeB Shun w1 b) → FreeB (fun l => Shun l ∨ ShN Wg l) w2 b := fun b h1 h2 h3 => free_low hs1 h1 h2 h3
    have free12 : ∀ y, FreeB Shun w1 y → FreeB (fun l => Shun l ∨ ShN Wg l) w2 y := fun y hy => free2 y (by have := hy.1; omega) (by have := hy.1; omega) fun _ => hy
    obtain ⟨cells', hC1, hC2, _⟩ := hU.2.2 _ _ _ oc3
    have hR2 : CellsIn C wd dp s (wd * dp) xss (fun o => o < xss.length) (fun b => w1.heap.size ≤ b ∧ FreeB (fun l => Shun l ∨ ShN Wg l) w2 b) w2 :=
      cells_join (k := k) (by omega) (fun j hj => (hfact j hj).2) hdis fun i b hi hb => by
        obtain ⟨q1, q2, q3, q4⟩ := hSg i b hi hb
        exact ⟨q1, free2 b q2 q3 fun h => by omega⟩
    have lt1 := (hfree _ og1).1
    have lt2 := (hfree _ or1).1
    have lt3 := (hfree _ oo1).1
    obtain ⟨K3, m3, t3, gg, w3, S3, r3, hAt3, ⟨rfl, y1, y2, y3, y4, y5, y6⟩, hfree3, _⟩ := hAt2.walk (fun S g w d h => h) (cp_last (wd := wd) (dp := dp) (s := s) (n := wd * dp) (g := g0) (C := C) (bl := bl) (br := br) (bo := bo) (bm := bm) (xss := xss) (F := FreeB (fun l => Shun l ∨ ShN Wg l) w2) (T := T) (kw := k)
      (Sc := fun b => w1.heap.size ≤ b ∧ FreeB (fun l => Shun l ∨ ShN Wg l) w2 b) (fun b hb => hb.1) (by have := hK.size; omega) (by omega) rfl hn1 (by omega) hkeys (free12 _ (hfree _ om1)) ((hU.2.1 bm (hfree _ om1) z4).trans om3) (free12 _ (hfree _ oc1)) hC1 hR2
      (fun b hb => ⟨hb.2, by have := hb.1; omega, by have := hb.1; omega, by have := hb.1; omega⟩) (free12 _ (hfree _ oo1)) ((hU.2.1 bo (hfree _ oo1) z3).trans oo3) (free12 _ (hfree _ og1)) ((hU.2.1 g0 (hfree _ og1) z5).trans og3) (free12 _ (hfree _ or1)) ((hU.2.1 br (hfree _ or1) z2).trans or3)
      (free12 _ (hfree _ ol1)) (by rw [(hU.2.1 bl (hfree _ ol1) z1), ol3]; rfl) (Ne.symm z5) z8 z9 z7 z10 z11 nmo (Ne.symm z2) (Ne.symm z3))
    have hgrow : Grow Shun w (fun l => Shun l ∨ ShN Wg l) w3 := by
      refine ⟨y5.1.trans (hU.1.1.trans hK.tape), y5.2.1.trans (hU.1.2.1.trans hK.os), y5.2.2.trans (hU.1.2.2.trans hK.output), by have := hK.size; omega, fun y hy => ?_⟩
      have h1 := hgrow1.old y hy
      have hyw := hy.1
      have hne : ¬ (y = g0 ∨ y = br ∨ y = bo) := by
        rintro (h | h | h) <;> omega
      exact ⟨hfree3 _ (y1 y (free12 y h1.1)), (y4 y (free12 y h1.1) hne).trans ((hU.2.1 y h1.1 (neC y hy)).trans h1.2)⟩
    exact ⟨K1 + (K2 + K3), m3, t3, w3, _, _, run_trans r1 (run_trans r2 r3), hAt3, hgrow, .inr ⟨hg, g0, wd, dp, s, rfl, rfl, rfl, rfl, og2, hfree3 _ (y1 _ (free12 _ (hfree _ og1))), y6⟩⟩
end
end Go.Proofs.Ytmmolicodlmlkaa.Ph
namespace Go.Proofs.Ytmmolicodlmlkaa
open Go.RowKit
open Go.Proofs.Ytmmolicodlmlkaa.Rel (Ints)
set_option linter.unusedVariables false
set_option linter.unusedSimpArgs false

end Go.Proofs.Ytmmolicodlmlkaa
namespace Go.Proofs.Ytmmolicodlmlkaa.Ph
open Go.Conc Go.ConcN Go.RowKit
open Go.Proofs.Ytmmolicodlmlkaa.Rel
set_option linter.unusedVariables false
set_option linter.unusedSimpArgs false

/-! ### cells that the program has made, called by a law -/
abbrev cellV (d0 d1 d2 : Int) (A : Option Addr) (n c : Nat) : Value := .agg #[.int .i64 d0, .int .i64 d1, .int .i64 d2, .slice A n c]
def hdOf (g : Bool) (a : Int) : Int := if g then a else 0
def cntOf (g : Bool) (a0 a1 a2 : Int) (xss : List (List Int)) : List Int := if g then sumC a0.toNat a2.toNat a1.toNat xss xss.length else []
section
variable {W₀ : World} {l : List Fc} {F S : Nat → Prop} {own : List ((Nat → Prop) × Fc)} {Shun : Loc → Prop} {w : World} {m : Machine} {t : Trace} {a0 a1 a2 : Int} {A : Option Addr} {c : Nat} {xss : List (List Int)} {kw : Int} {cs : List Frame} {b₀ : Frame} {a₀ : Act} {ops₀ : Array Oper} {i₀ : Nat} {rest₀ : List Nat} {k₀ : List Item}
theorem ssr_sub {F F' : Nat → Prop} (h : SSr F w A xss) (hs : ∀ y, F y → F' y) : SSr F' w A xss := h.stay fun y hy => ⟨hs y hy, rfl⟩
/-- ████ impl.CellsShared, CALLED BY A LAW. ████ -/
theorem cells_at (h : At Try.prog Shun (G (Frame.enter Try.prog 28 #[.int .i64 a0, .int .i64 a1, .int .i64 a2, .slice A xss.length c, .int .i64 kw] .normal) (b₀.at a₀ (.inRegion ops₀ (i₀ :: rest₀) :: k₀) :: cs)) w m t) (hH : LH W₀ l F own S w) (hS : ∀ y, S y → FreeB Shun w y)
    (h0 : W64 a0) (h1 : W64 a1) (h2 : W64 a2) (hx : SSr S w A xss) :
    ∃ K m' t' w' Shun' Ag cg G', runNT Try.prog K m t = (.next m', t') ∧ At Try.prog Shun' (G (b₀.at (a₀.put ((ops₀[i₀]?).bind (·.dst)) (.tuple #[cellV (hdOf (gateCS a0 a1 a2 xss kw) a0) (hdOf (gateCS a0 a1 a2 xss kw) a1) (hdOf (gateCS a0 a1 a2 xss kw) a2) Ag (cntOf (gateCS a0 a1 a2 xss kw) a0 a1 a2 xss).length cg, .bool (gateCS a0 a1 a2 xss kw)])) (.inRegion ops₀ rest₀ :: k₀)) cs) w' m' t' ∧
      LH W₀ l F ((G', .own Ag (cntOf (gateCS a0 a1 a2 xss kw) a0 a1 a2 xss)) :: own) (FreeB Shun' w') w' := by
  obtain ⟨K, m', t', w', Shun', v, hr, hAt, hg, hR⟩ := cells_machine h hH.glob h0 h1 h2 (ssr_sub hx hS)
  have hH1 := (hH.wide hS fun y hy => hy.1).grow hg
  rcases hR with ⟨e, rfl⟩ | ⟨e, g, wd, dp, s, rfl, rfl, rfl, rfl, q1, q2, q3⟩
  · refine ⟨K, m', t', w', Shun', none, 0, fun _ => False, hr, ?_, ?_⟩
    · rw [e]; exact hAt
    · rw [e]
      exact hH1.addOwn ⟨fun hne => absurd rfl hne, fun a ha => by cases ha⟩ (fun y hy => hy.elim) (fun y _ hy => hy) fun q hq y _ hy => hy
  · have hlen : (sumC wd s dp xss xss.length).length = wd * dp := sumC_length _ _ _ _ _
    refine ⟨K, m', t', w', Shun', some ⟨g, 0, none⟩, wd * dp, fun y => y = g, hr, ?_, ?_⟩
    · rw [e]
      simp only [hdOf, cntOf, if_true, Int.toNat_natCast, hlen]
      exact hAt
    · rw [e]
      simp only [cntOf, if_true, Int.toNat_natCast]
      refine hH1.addOwn ⟨fun _ => ⟨g, [], rfl, Nat.zero_le _, by rw [List.append_nil]; exact q3⟩, fun a ha => ?_⟩ (fun y hy => by subst hy; exact q2) (fun y hy hn => ?_) fun q hq y hy hn => ?_
      · obtain rfl := Option.some.inj ha
        exact ⟨rfl, ⟨_, _, q3, fun v hv => by simp at hv; obtain ⟨i, _, rfl⟩ := hv; exact ⟨i, rfl⟩⟩, rfl⟩
      · subst hn
        have := hH.low y (hH.sub y hy)
        omega
      · subst hn
        have := hH.low y ((hH.ow q hq).2.1 y hy)
        omega
end
end Go.Proofs.Ytmmolicodlmlkaa.Ph
namespace Go.Proofs.Ytmmolicodlmlkaa.Ph
open Go.Conc Go.ConcN Go.RowKit Go.Conc.Lib Go.ConcR.Gen Go.ConcN.Gen
open Go.ConcR (KK wgBlock WgAt stA smA rd wr mk DC0 Payload)
open Go.Proofs.Ytmmolicodlmlkaa.Rel
set_option linter.unusedVariables false
set_option linter.unusedSimpArgs false

section
variable {W₀ : World} {l fs : List Fc} {F S N s : Nat → Prop} {own : List ((Nat → Prop) × Fc)} {w wl w' : World} {fset : FuncId → Bool} {ρ : Rn} {A : Option Addr} {x : List Int}
/-- Many new facts that are read. -/
theorem LH.addMany (h : LH W₀ l F own S w) (hf : ∀ f ∈ fs, f.holds N w) (hS : ∀ y, N y → S y) (hd : ∀ q ∈ own, ∀ y, q.1 y → ¬ N y) : LH W₀ (fs ++ l) (fun y => F y ∨ N y) own S w :=
  ⟨h.tw, fun y hy => ⟨.inl (h.old y hy).1, (h.old y hy).2⟩, h.low, h.glob, fun x hx => by
    rcases List.mem_append.1 hx with hx | hx
    · exact fc_stay (hf x hx) fun y hy => ⟨.inr hy, rfl⟩
    · exact fc_stay (h.fc x hx) fun y hy => ⟨.inl hy, rfl⟩, fun y hy => hy.elim (h.sub y) (hS y), fun p hp => ⟨(h.ow p hp).1, (h.ow p hp).2.1, fun y hy hp' => hy.elim (fun hy => (h.ow p hp).2.2 y hy hp') fun hy => hd p hp y hp' hy⟩, h.dis⟩
/-- A slice of its own that a lone piece has made. -/
theorem own_argK (hL : Rel.Left Try.prog (fnsQ fset w S No) w (fun b => S b ∧ ¬ No b) No ρ wl s w') (ho : OwnS (Value.int .i64) wl w.heap.size 2 A x) (hne : x ≠ []) : (Fc.arg (A.map (renS ρ)) x).holds (fun y => w.heap.size ≤ y ∧ s y) w' := by
  obtain ⟨g, ex, rfl, hg, hb⟩ := ho hne
  have p1 := (left_blk hL (fnsQ_new hg).1 hb).1
  have m1 := left_new hL hg hb.lt
  have h1 := (hL.own (fun b hb => (fnsQ_new hb).1) (fun y => by simp) ho).1
  refine ⟨h1.rd, fun a ha => ?_⟩
  simp at ha
  subst ha
  exact ⟨⟨m1.2, m1.1⟩, by simp only; rw [p1]; rfl, rfl⟩
theorem ownV_argK {n c : Nat} (hL : Rel.Left Try.prog (fnsQ fset w S No) w (fun b => S b ∧ ¬ No b) No ρ wl s w') (ho : OwnV wl w.heap.size (.slice A n c) x) : (Fc.arg (A.map (renS ρ)) x).holds (fun y => w.heap.size ≤ y ∧ s y) w' := by
  have ho0 := ho
  obtain ⟨hn, ⟨h, h0⟩ | ⟨g, cap, cur, hv, hB, hg, hc, hm, hs, ht⟩⟩ := ho
  · injection h with h1 _ _
    subst h1
    have : x = [] := List.eq_nil_of_length_eq_zero h0
    subst this
    exact ⟨fun i hi => by simp at hi, fun a ha => (by simp at ha)⟩
  · injection hv with h1 _ _
    subst h1
    obtain ⟨A2, c2, e2, hos⟩ := ho0.ownS
    injection e2 with e2 _ _
    subst e2
    have hlt : g < wl.heap.size := (Array.getElem?_eq_some_iff.1 hg).1
    have p1 := (left_blk hL (fnsQ_new hB).1 hg).1
    have m1 := left_new hL hB hlt
    have h1 := (hL.own (fun b hb => (fnsQ_new hb).1) (fun y => by simp) hos).1
    refine ⟨h1.rd, fun a ha => ?_⟩
    simp at ha
    subst ha
    exact ⟨⟨m1.2, m1.1⟩, by simp only; rw [p1]; rfl, rfl⟩
theorem box_K {b n c : Nat} {d0 d1 d2 : Int} (hL : Rel.Left Try.prog (fnsQ fset w S No) w (fun b => S b ∧ ¬ No b) No ρ wl s w') (hb : BlkC wl b d0 d1 d2 A n c) (hle : w.heap.size ≤ b) : (Fc.box (ρ.f b) #[.int .i64 d0, .int .i64 d1, .int .i64 d2, .slice (A.map (renS ρ)) n c] 37).holds (fun y => w.heap.size ≤ y ∧ s y) w' := by
  have p1 := (left_blk hL (fnsQ_new hle).1 hb).1
  have m1 := left_new hL hle hb.lt
  simp only [List.map_toArray, List.map_cons, List.map_nil, ren_slice, ren_int] at p1
  exact ⟨⟨m1.2, m1.1⟩, p1⟩
end
end Go.Proofs.Ytmmolicodlmlkaa.Ph
namespace Go.Proofs.Ytmmolicodlmlkaa.Ph
open Go.Conc Go.ConcN Go.RowKit Go.Conc.Lib Go.ConcR.Gen Go.ConcN.Gen
open Go.ConcR (KK wgBlock WgAt stA smA rd wr mk DC0 Payload)
open Go.Proofs.Ytmmolicodlmlkaa.Rel
set_option linter.unusedVariables false
set_option linter.unusedSimpArgs false

theorem nmf_b10At : (Try.f36.name == "runtime.NumGoroutine") = false := by kernel_rfl
theorem nmf_iCells : (Try.f28.name == "runtime.NumGoroutine") = false := by kernel_rfl
def baFs : FuncId → Bool := fun f => [36].contains f
theorem baFs_0 : fnOk Try.prog baFs Try.f36 = true := by kernel_rfl
theorem baFs_ok : ∀ f, baFs f = true → ∃ fn, Try.prog.funcs[f]? = some fn ∧ fnOk Try.prog baFs fn = true := by
  intro f hf
  simp [baFs] at hf
  subst hf
  · exact ⟨_, Try.func36, baFs_0⟩
def faFs : FuncId → Bool := fun f => [34, 35, 36, 37, 38, 39, 40, 41, 43, 63, 66, 91, 92, 95, 96, 97, 98, 99, 100, 101, 102, 105, 110, 111, 114, 118, 123, 130, 131, 139].contains f
theorem faFs_0 : fnOk Try.prog faFs Try.f34 = true := by kernel_rfl
theorem faFs_1 : fnOk Try.prog faFs Try.f35 = true := by kernel_rfl
theorem faFs_2 : fnOk Try.prog faFs Try.f36 = true := by kernel_rfl
theorem faFs_3 : fnOk Try.prog faFs Try.f37 = true := by kernel_rfl
theorem faFs_4 : fnOk Try.prog faFs Try.f38 = true := by kernel_rfl
theorem faFs_5 : fnOk Try.prog faFs Try.f39 = true := by kernel_rfl
theorem faFs_6 : fnOk Try.prog faFs Try.f40 = true := by kernel_rfl
theorem faFs_7 : fnOk Try.prog faFs Try.f41 = true := by kernel_rfl
theorem faFs_8 : fnOk Try.prog faFs Try.f43 = true := by kernel_rfl
theorem faFs_9 : fnOk Try.prog faFs Try.f63 = true := by kernel_rfl
theorem faFs_10 : fnOk Try.prog faFs Try.f66 = true := by kernel_rfl
theorem faFs_11 : fnOk Try.prog faFs Try.f91 = true := by kernel_rfl
theorem faFs_12 : fnOk Try.prog faFs Try.f92 = true := by kernel_rfl
theorem faFs_13 : fnOk Try.prog faFs Try.f95 = true := by kernel_rfl
theorem faFs_14 : fnOk Try.prog faFs Try.f96 = true := by kernel_rfl
theorem faFs_15 : fnOk Try.prog faFs Try.f97 = true := by kernel_rfl
theorem faFs_16 : fnOk Try.prog faFs Try.f98 = true := by kernel_rfl
theorem faFs_17 : fnOk Try.prog faFs Try.f99 = true := by kernel_rfl
theorem faFs_18 : fnOk Try.prog faFs Try.f100 = true := by kernel_rfl
theorem faFs_19 : fnOk Try.prog faFs Try.f101 = true := by kernel_rfl
theorem faFs_20 : fnOk Try.prog faFs Try.f102 = true := by kernel_rfl
theorem faFs_21 : fnOk Try.prog faFs Try.f105 = true := by kernel_rfl
theorem faFs_22 : fnOk Try.prog faFs Try.f110 = true := by kernel_rfl
theorem faFs_23 : fnOk Try.prog faFs Try.f111 = true := by kernel_rfl
theorem faFs_24 : fnOk Try.prog faFs Try.f114 = true := by kernel_rfl
theorem faFs_25 : fnOk Try.prog faFs Try.f118 = true := by kernel_rfl
theorem faFs_26 : fnOk Try.prog faFs Try.f123 = true := by kernel_rfl
theorem faFs_27 : fnOk Try.prog faFs Try.f130 = true := by kernel_rfl
theorem faFs_28 : fnOk Try.prog faFs Try.f131 = true := by kernel_rfl
theorem faFs_29 : fnOk Try.prog faFs Try.f139 = true := by kernel_rfl
theorem faFs_ok : ∀ f, faFs f = true → ∃ fn, Try.prog.funcs[f]? = some fn ∧ fnOk Try.prog faFs fn = true := by
  intro f hf
  simp [faFs] at hf
  rcases hf with rfl | rfl | rfl | rfl | rfl | rfl | rfl | rfl | rfl | rfl | rfl | rfl | rfl | rfl | rfl | rfl | rfl | rfl | rfl | rfl | rfl | rfl | rfl | rfl | rfl | rfl | rfl | rfl | rfl | rfl
  · exact ⟨_, Try.func34, faFs_0⟩
  · exact ⟨_, Try.func35, faFs_1⟩
  · exact ⟨_, Try.func36, faFs_2⟩
  · exact ⟨_, Try.func37, faFs_3⟩
  · exact ⟨_, Try.func38, faFs_4⟩
  · exact ⟨_, Try.func39, faFs_5⟩
  · exact ⟨_, Try.func40, faFs_6⟩
  · exact ⟨_, Try.func41, faFs_7⟩
  · exact ⟨_, Try.func43, faFs_8⟩
  · exact ⟨_, Try.func63, faFs_9⟩
  · exact ⟨_, Try.func66, faFs_10⟩
  · exact ⟨_, Try.func91, faFs_11⟩
  · exact ⟨_, Try.func92, faFs_12⟩
  · exact ⟨_, Try.func95, faFs_13⟩
  · exact ⟨_, Try.func96, faFs_14⟩
  · exact ⟨_, Try.func97, faFs_15⟩
  · exact ⟨_, Try.func98, faFs_16⟩
  · exact ⟨_, Try.func99, faFs_17⟩
  · exact ⟨_, Try.func100, faFs_18⟩
  · exact ⟨_, Try.func101, faFs_19⟩
  · exact ⟨_, Try.func102, faFs_20⟩
  · exact ⟨_, Try.func105, faFs_21⟩
  · exact ⟨_, Try.func110, faFs_22⟩
  · exact ⟨_, Try.func111, faFs_23⟩
  · exact ⟨_, Try.func114, faFs_24⟩
  · exact ⟨_, Try.func118, faFs_25⟩
  · exact ⟨_, Try.func123, faFs_26⟩
  · exact ⟨_, Try.func130, faFs_27⟩
  · exact ⟨_, Try.func131, faFs_28⟩
  · exact ⟨_, Try.func139, faFs_29⟩
theorem fl_spine : spineOk Try.prog ⟨faFs, fun _ => false, fun _ => false, fun _ => false⟩ 15 fbody = true := by kernel_rfl
theorem fl_results : Try.f9.results.all resOk = true := by kernel_rfl
section
variable {W₀ : World} {l : List Fc} {F S : Nat → Prop} {own : List ((Nat → Prop) × Fc)} {w w' : World} {cs : List Frame} {b₀ : Frame} {a₀ : Act} {ops₀ : Array Oper} {i₀ : Nat} {rest₀ : List Nat} {k₀ : List Item} {A A' : Option Addr} {c c' : Nat} {x y : List Int}
theorem rdu_stay {v : World} (h : RdL (Value.int .u8) w A x) (hs : ∀ a, A = some a → v.heap[a.block]? = w.heap[a.block]?) : RdL (Value.int .u8) v A x := by
  intro j hj
  obtain ⟨b, o, hA, hc⟩ := h j hj
  exact ⟨b, o, hA, (cell_stay (a := ⟨b, o + j, none⟩) (show v.heap[b]? = w.heap[b]? from hs _ hA)).trans hc⟩
theorem lone_rdu {fs : FuncId → Bool} (hl : ∀ y, S y → y < w.heap.size) (hx : RdL (Value.int .u8) w A x) (hA : ArgP S w A) : RdL (Value.int .u8) (loneW (fnsQ fs w S No) w) A x :=
  rdl_look hx (fun _ => by simp) fun b o _ e => ⟨rfl, fnsQ_old (hl _ (hA _ e).1) (hA _ e).1 (hA _ e).2.1, fnsQ_no (hl _ (hA _ e).1)⟩
/-- b10At, beside leavers. -/
theorem b10At_gl (h : LH W₀ l F own S w) (hx : RdL (Value.int .u8) w A x) (hA : ArgP S w A) (hb : Byt x) (hn : x.length ≤ 1048576) {i n : Int} (hi0 : 0 ≤ i) (hi1 : i ≤ 1000) (hn1 : 1 < n) (hn2 : n ≤ 256) :
    GL Try.prog (fun t g w' => ∃ r, (0 ≤ r ∧ r < n) ∧ g = G (b₀.at (a₀.put ((ops₀[i₀]?).bind (·.dst)) (.int .i64 r)) (.inRegion ops₀ rest₀ :: k₀)) cs ∧ LH W₀ l F own t w') S
      (G (Frame.enter Try.prog 36 #[.slice A x.length c, .int .i64 i, .int .i64 n] .normal) (b₀.at a₀ (.inRegion ops₀ (i₀ :: rest₀) :: k₀) :: cs)) w := by
  have hg := gl_back (b₀ := b₀) (a₀ := a₀) (ops₀ := ops₀) (i₀ := i₀) (rest₀ := rest₀) (k₀ := k₀) (cs := cs) (fun b h => h.elim) (gl_call (P := Try.prog) (fs := baFs) (v := w) (F := S) (W := No) (f := 36) (args := #[.slice A x.length c, .int .i64 i, .int .i64 n])
    (Q := fun u w' => ∃ r, u = .int .i64 r ∧ 0 ≤ r ∧ r < n) (fun b h => h.elim) h.low zero_ok h.glob baFs_ok rfl (by
      intro z hz
      simp at hz
      rcases hz with rfl | rfl | rfl
      · exact okV_arg h.lf hA
      · simp
      · simp) fun τ => (b10At_any A c x i n { loneW (fnsQ baFs w S No) w with tape := τ, drawn := 0 } (lone_rdu h.low hx hA) hb hn hi0 hi1 hn1 hn2).mono fun e w' he => by
        obtain ⟨⟨r, rfl, h1, h2⟩, _⟩ := he
        exact ⟨r, rfl, h1, h2⟩)
  refine Go1.widen hg ?_
  rintro t g w' ⟨s, rfl, ρ, u, wl, rfl, ⟨r, rfl, h1, h2⟩, hok, hL⟩
  exact ⟨r, ⟨h1, h2⟩, by simp, h.lk (lk_left h.low hL)⟩
theorem LH.alloc (h : LH W₀ l F own S w) (c : Array Value) (t : TypeId) : LH W₀ (.box w.heap.size c t :: l) (fun y => F y ∨ y = w.heap.size) own (fun b => S b ∨ b = w.heap.size) (w.alloc (.cells c t)) := by
  have hs : (w.alloc (.cells c t)).heap.size = w.heap.size + 1 := by simp
  have h1 : LH W₀ l F own (fun b => S b ∨ b = w.heap.size) (w.alloc (.cells c t)) := h.stay (fun y hy => ⟨.inl hy, heap_alloc_old w _ (h.low y hy)⟩) (fun y hy => by rcases hy with hy | hy <;> (try have := h.low y hy) <;> omega) (by omega) ⟨rfl, rfl, rfl⟩
  exact h1.addBase (f := .box w.heap.size c t) (N := fun y => y = w.heap.size) ⟨rfl, heap_alloc_new w _⟩ (fun y hy => .inr hy) (fun q hq y hy e => by subst e; have := h.low _ ((h.ow q hq).2.1 _ hy); omega)
theorem ssr_two {Ak Ao : Option Addr} {ks os : List Int} {ck co gs : Nat} (h1 : (Fc.box gs #[.slice Ak ks.length ck, .slice Ao os.length co] 22).holds S w) (h2 : (Fc.arg Ak ks).holds S w) (h3 : (Fc.arg Ao os).holds S w) : (Fc.ss (some ⟨gs, 0, none⟩) [ks, os]).holds S w := by
  refine ⟨fun a ha => ?_, fun o ho => ?_⟩
  · obtain rfl := Option.some.inj ha
    exact ⟨h1.1, by simp only; rw [h1.2]; rfl, rfl⟩
  · match o, ho with
    | 0, _ => exact ⟨gs, 0, Ak, ck, rfl, by simp [World.cell?, h1.2], h2.1, .inl h2.2⟩
    | 1, _ => exact ⟨gs, 0, Ao, co, rfl, by simp [World.cell?, h1.2], h3.1, .inl h3.2⟩
theorem old_byt (h : LH W₀ l F own S w) (hx : RdL (Value.int .u8) W₀ A x) (hA : ArgP (fun y => y < W₀.heap.size) W₀ A) : RdL (Value.int .u8) w A x ∧ ArgP S w A :=
  ⟨rdu_stay hx fun a ha => (h.old _ (hA a ha).1).2, fun a ha => ⟨h.sub _ (h.old _ (hA a ha).1).1, (hA a ha).2.stay (h.old _ (hA a ha).1).2⟩⟩
set_option maxRecDepth 100000 in
set_option maxHeartbeats 8000000 in
theorem f_a (hF : LH W₀ [] F [] S w) (hx : RdL (Value.int .u8) W₀ A x) (hA : ArgP (fun y => y < W₀.heap.size) W₀ A) (hbx : Byt x) (hn : x.length ≤ 1048576) (hy : RdL (Value.int .u8) W₀ A' y) (hA' : ArgP (fun y => y < W₀.heap.size) W₀ A') (hby : Byt y) (hn' : y.length ≤ 1048576) :
    GL Try.prog (fun t g w' => ∃ T wd dp s ks os Ak ck Ao co ba bc bb bm Aa ca Ac cc Ab cb Am cm gs kw F', g = G (Frame.enter Try.prog 28 #[.int .i64 (wd : Nat), .int .i64 (dp : Nat), .int .i64 (s : Nat), .slice (some ⟨gs, 0, none⟩) 2 2, .int .i64 kw] .normal) [(base 9).at ⟨arrF T (.slice A x.length c) (.slice A' y.length c') (.slice Ak ks.length ck) (.slice Ao os.length co) (.int .i64 (wd : Nat)) (.int .i64 (dp : Nat)) (.int .i64 (s : Nat)) (.bool true) (ptrB ba) (ptrB bc) (ptrB bb) (ptrB bm) (.bool true) (.int .i64 (ks.length : Nat)) (.bool true), []⟩ [.inRegion fy15 [9, 10, 11, 12, 13, 14, 15], .code fc16]] ∧
      FcOk wd dp s ks os ∧ (1 ≤ kw ∧ kw ≤ 8) ∧ (wd * dp ≤ ca ∧ ca ≤ 9223372036854775807) ∧ (wd * dp ≤ cb ∧ cb ≤ 9223372036854775807) ∧ LH W₀ (.ss (some ⟨gs, 0, none⟩) [ks, os] :: [.arg Ak ks, .arg Ao os, .box ba #[.int .i64 (wd : Nat), .int .i64 (dp : Nat), .int .i64 (s : Nat), .slice Aa (wd * dp) ca] 37, .box bc #[.int .i64 (wd : Nat), .int .i64 (dp : Nat), .int .i64 (s : Nat), .slice Ac (wd * dp) cc] 37, .box bb #[.int .i64 (wd : Nat), .int .i64 (dp : Nat), .int .i64 (s : Nat), .slice Ab (wd * dp) cb] 37, .box bm #[.int .i64 (wd : Nat), .int .i64 (dp : Nat), .int .i64 (s : Nat), .slice Am (wd * dp) cm] 37, .arg Aa (putC wd s dp ks), .arg Ac (carC wd s dp ks), .arg Ab (putC wd s dp os), .arg Am (bothC wd s dp ks os)]) F' [] t w') S (G (Frame.enter Try.prog 9 #[.slice A x.length c, .slice A' y.length c'] .normal) []) w := by
  have rl : ∀ {l : List Fc} {F : Nat → Prop} {own : List ((Nat → Prop) × Fc)} {S : Nat → Prop} {a b : World}, LH W₀ l F own S a → RS No S a b → LH W₀ l F own S b := fun h r => h.rely r
  obtain ⟨x1, x2⟩ := old_byt hF hx hA
  obtain ⟨y1, y2⟩ := old_byt hF hy hA'
  have ha : ∀ z ∈ (actF A x.length c A' y.length c').tmps, okV (fnsQ faFs w S No) w.heap.size z = true := by
    intro z hz
    simp [arrF] at hz
    rcases hz with rfl | rfl | rfl
    · exact okV_arg hF.lf x2
    · exact okV_arg hF.lf y2
    · exact okV_undef _ _
  rw [fl_enter]
  have hcut := gl_cut (P := Try.prog) (fs := faFs) (v := w) (F := S) (W := No) (cs := []) (f := 9) (n := 15) (Pre := FcPre w.heap.size (.slice A x.length c) (.slice A' y.length c')) (fun b h => h.elim) hF.low zero_ok hF.glob faFs_ok fl_spine rfl ha fun τ => by
    have h := fc_reach A c x A' c' y { loneW (fnsQ faFs w S No) w with tape := τ, drawn := 0 } (lone_rdu hF.low x1 x2) hbx (lone_rdu hF.low y1 y2) hby hn hn'
    have e : ({ loneW (fnsQ faFs w S No) w with tape := τ, drawn := 0 } : World).heap.size = w.heap.size := loneW_size
    rw [e] at h
    exact h
  refine Go1.bind (fun _ a => RS.refl a) hcut ?_
  rintro t g w' ⟨s', rfl, ρ, a', wl, rfl, ⟨hd, wd, dp, s, ks, os, Ak, ck, Ao, co, ba, bc, bb, bm, Aa, ca, Ac, cc, Ab, cb, Am, cm, ht, hst⟩, hok, hL⟩
  have arg_id : ∀ {B : Option Addr}, ArgP S w B → B.map (renS ρ) = B := by
    intro B hB
    cases B with
    | none => rfl
    | some a =>
      have := hL.id a.block (hF.low _ (hB a rfl).1)
      rw [Option.map_some, renS_none _ (hB a rfl).2.2]
      simp only [renA, this]
  have ea := arg_id x2
  have ea' := arg_id y2
  have hne : ∀ l : List Int, l.length = wd * dp → l ≠ [] := fun l hl e => by rw [e] at hl; have := hst.ok.sz; simp at hl; omega
  have OK := hst.ok
  have KA := hst.ka
  have KB := hst.kb
  have f1 := ownV_argK hL hst.K
  have f2 := ownV_argK hL hst.O
  have f3 := box_K hL hst.a hst.la
  have f4 := box_K hL hst.c hst.lc
  have f5 := box_K hL hst.b hst.lb
  have f6 := box_K hL hst.m hst.lm
  have f7 := own_argK hL hst.xa (hne _ (putZ_length _))
  have f8 := own_argK hL hst.xc (hne _ (carZ_length _))
  have f9 := own_argK hL hst.xb (hne _ (putZ_length _))
  have f10 := own_argK hL hst.xm (hne _ bothC_length)
  replace hF := (hF.lk (lk_left hF.low hL)).addMany (N := fun y => w.heap.size ≤ y ∧ s' y) (fs := [.arg (Ak.map (renS ρ)) ks, .arg (Ao.map (renS ρ)) os, _, _, _, _, .arg (Aa.map (renS ρ)) (putC wd s dp ks), .arg (Ac.map (renS ρ)) (carC wd s dp ks), .arg (Ab.map (renS ρ)) (putC wd s dp os), .arg (Am.map (renS ρ)) (bothC wd s dp ks os)]) (fun f hf => by
    simp only [List.mem_cons, List.not_mem_nil, or_false] at hf
    rcases hf with rfl | rfl | rfl | rfl | rfl | rfl | rfl | rfl | rfl | rfl
    · exact f1
    · exact f2
    · exact f3
    · exact f4
    · exact f5
    · exact f6
    · exact f7
    · exact f8
    · exact f9
    · exact f10) (fun y hy => .inr hy.2) (fun q hq => by cases hq)
  rw [List.append_nil] at hF
  generalize (fun b => (S b ∧ ¬ No b) ∨ s' b) = S' at hF ⊢
  rw [ht]
  generalize (fun i => a'.tmps.getD i undef) = T
  simp only [arrF, List.map_toArray, List.map_cons, List.map_nil, ren_slice, ren_int, ren_bool, ren_pointer, Option.map_some, renA, ea, ea']
  generalize Ak.map (renS ρ) = Ak at hF ⊢
  generalize Ao.map (renS ρ) = Ao at hF ⊢
  generalize Aa.map (renS ρ) = Aa at hF ⊢
  generalize Ac.map (renS ρ) = Ac at hF ⊢
  generalize Ab.map (renS ρ) = Ab at hF ⊢
  generalize Am.map (renS ρ) = Am at hF ⊢
  generalize ρ.f ba = ba at hF ⊢
  generalize ρ.f bc = bc at hF ⊢
  generalize ρ.f bb = bb at hF ⊢
  generalize ρ.f bm = bm at hF ⊢
  generalize ren ρ = rr
  clear hcut ha hok hL ht hd ea ea' f1 f2 f3 f4 f5 f6 f7 f8 f9 f10 hst x1 x2 y1 y2 hne
  refine gl_go (n := 100) ?_
  simp only [fbody, Try.f9, cut]
  (u_in rl hF; rw [stepG_seq]; simp only [goes_go]; refine ⟨by (refine de1_none ?_; intro e he; simp at he), ?_⟩)
  (u_in rl hF; rw [stepG_region]; simp only [goes_go, List.size_toArray, List.length_cons, List.length_nil, Nat.reduceAdd, Nat.zero_add, List.range, List.range.loop]; refine ⟨by (refine de1_none ?_; intro e he; simp at he), ?_⟩)
  u_in rl hF
  refine goes_oper_k rfl rfl (by k_ne) (fun K hK => ?_)
  go_simp
  refine hK _ _ ⟨?_, ?_⟩
  · refine de1_none ?_
    intro e he
    have hm := mem_listed he
    simp [go_sem, *] at hm
  clear hK K
  try w_num
  u_in rl hF
  refine goes_oper_k rfl rfl (by k_ne) (fun K hK => ?_)
  go_simp
  refine hK _ _ ⟨?_, ?_⟩
  · refine de1_none ?_
    intro e he
    have hm := mem_listed he
    simp [go_sem, *] at hm
  clear hK K
  try w_num
  u_in rl hF
  refine goes_oper_k rfl rfl (by k_ne) (fun K hK => ?_)
  go_simp
  refine hK _ _ ⟨?_, ?_⟩
  · refine de1_none ?_
    intro e he
    have hm := mem_listed he
    simp [go_sem, *] at hm
  clear hK K
  try w_num
  u_in rl hF
  refine goes_oper_k rfl rfl (by k_ne) (fun K hK => ?_)
  go_simp
  refine hK _ _ ⟨?_, ?_⟩
  · refine de1_none ?_
    intro e he
    have hm := mem_listed he
    simp [go_sem, *] at hm
  clear hK K
  try w_num
  u_in rl hF
  refine goes_oper_k rfl rfl (by k_ne) (fun K hK => ?_)
  go_simp
  refine hK _ _ ⟨?_, ?_⟩
  · refine de1_none ?_
    intro e he
    have hm := mem_listed he
    simp [go_sem, *] at hm
  clear hK K
  try w_num
  refine Goes.stop fun w₁ h₁ => ?_
  replace hF := rl hF h₁
  clear h₁
  refine go1_op rfl rfl (by k_ne) (fun w₂ h₂ K hK => ?_)
  replace hF := rl hF h₂
  clear h₂
  go_simp
  refine hK _ _ ⟨_, ds_alloc (fun e he => ?_), ?_⟩
  · have hm := mem_listed he
    simp [go_sem, storedEv, *] at hm
  clear hK K
  replace hF := hF.alloc #[.slice Ak ks.length ck, .slice Ao os.length co] 22
  generalize w₂.heap.size = gs at hF ⊢
  generalize w₂.alloc _ = w₃ at hF ⊢
  refine gl_go (n := 100) ?_
  u_in rl hF
  refine goes_oper_k rfl rfl (by k_ne) (fun K hK => ?_)
  go_simp
  refine hK _ _ ⟨?_, ?_⟩
  · refine de1_none ?_
    intro e he
    have hm := mem_listed he
    simp [go_sem, *] at hm
  clear hK K
  try w_num
  u_in rl hF
  refine goes_call rfl rfl (by k_ne) rfl Try.func36 nmf_b10At rfl ⟨by (refine de1_none ?_; intro e he; simp at he), ?_⟩
  rw [← enter_at _ Try.func36 rfl]
  refine Goes.stop fun w₁ h₁ => ?_
  replace hF := rl hF h₁
  clear h₁
  walk_nrm
  obtain ⟨y1, y2⟩ := old_byt hF hy hA'
  refine Go1.bind (fun _ a => RS.refl a) (b10At_gl hF y1 y2 hby hn' (by decide) (by decide) (by decide) (by decide)) ?_
  rintro t g w' ⟨r, ⟨r1, r2⟩, rfl, hF2⟩
  replace hF := hF2
  clear hF2 y1 y2
  have hwr : IntKind.i64.wrap (1 + r) = 1 + r := by rw [IntKind.wrap_i64]; omega
  refine gl_go (n := 100) ?_
  walk_nrm
  u_in rl hF
  refine goes_oper_k rfl rfl (by k_ne) (fun K hK => ?_)
  go_simp
  refine hK _ _ ⟨?_, ?_⟩
  · refine de1_none ?_
    intro e he
    have hm := mem_listed he
    simp [go_sem, *] at hm
  clear hK K
  try w_num
  u_in rl hF
  refine goes_call rfl rfl (by k_ne) rfl Try.func28 nmf_iCells rfl ⟨by (refine de1_none ?_; intro e he; simp at he), ?_⟩
  rw [← enter_at _ Try.func28 rfl]
  refine Goes.stop fun w₁ h₁ => Go1.stop fun w₂ h₂ => ?_
  replace hF := rl (rl hF h₁) h₂
  refine ⟨fun i => Array.getD #[.slice A x.length c, .slice A' y.length c', rr (T 2), rr (T 3), rr (T 4), .slice Ak ks.length ck, .slice Ao os.length co, .int .i64 (wd : Nat), .int .i64 (dp : Nat), .int .i64 (s : Nat), rr (T 10), .bool true, ptrB ba, ptrB bc, ptrB bb, rr (T 15), rr (T 16), rr (T 17), rr (T 18), rr (T 19), rr (T 20), rr (T 21), rr (T 22), ptrB bm, .bool true, .int .i64 (ks.length : Nat), .bool true, rr (T 27), rr (T 28), rr (T 29), rr (T 30), rr (T 31), rr (T 32), rr (T 33), rr (T 34), rr (T 35), rr (T 36), rr (T 37), rr (T 38), rr (T 39), rr (T 40), rr (T 41), rr (T 42), rr (T 43), rr (T 44), rr (T 45), rr (T 46), rr (T 47), rr (T 48), rr (T 49), rr (T 50), rr (T 51), rr (T 52), rr (T 53), rr (T 54), rr (T 55), rr (T 56), rr (T 57), rr (T 58), rr (T 59), rr (T 60), rr (T 61), rr (T 62), rr (T 63), rr (T 64), rr (T 65), rr (T 66), rr (T 67), rr (T 68), rr (T 69), rr (T 70), rr (T 71), rr (T 72), rr (T 73), rr (T 74), rr (T 75), rr (T 76), rr (T 77), rr (T 78), rr (T 79), rr (T 80), rr (T 81), rr (T 82), rr (T 83), rr (T 84), rr (T 85), rr (T 86), rr (T 87), rr (T 88), rr (T 89), rr (T 90), rr (T 91), rr (T 92), rr (T 93), rr (T 94), rr (T 95), rr (T 96), rr (T 97), rr (T 98), rr (T 99), rr (T 100), rr (T 101), rr (T 102), rr (T 103), rr (T 104), rr (T 105), rr (T 106), rr (T 107), rr (T 108), rr (T 109), rr (T 110), rr (T 111), rr (T 112), rr (T 113), rr (T 114), rr (T 115), rr (T 116), rr (T 117), rr (T 118), rr (T 119), rr (T 120), rr (T 121), rr (T 122), rr (T 123), rr (T 124), rr (T 125), rr (T 126), rr (T 127), rr (T 128), rr (T 129), rr (T 130), rr (T 131), rr (T 132), rr (T 133), rr (T 134), .int .i64 (wd : Nat), .int .i64 (dp : Nat), .int .i64 (s : Nat), .slice Ak ks.length ck, .slice Ao os.length co, .slice (some ⟨gs, 0, none⟩) 2 2, .slice A' y.length c', .int .i64 r, .int .i64 (1 + r), rr (T 144), rr (T 145), rr (T 146), rr (T 147), rr (T 148), rr (T 149), rr (T 150), rr (T 151), rr (T 152), rr (T 153), rr (T 154), rr (T 155), rr (T 156), rr (T 157), rr (T 158), rr (T 159), rr (T 160), rr (T 161), rr (T 162), rr (T 163), rr (T 164), rr (T 165), rr (T 166), rr (T 167), rr (T 168), rr (T 169), rr (T 170), rr (T 171), rr (T 172), rr (T 173), rr (T 174), rr (T 175), rr (T 176), rr (T 177), rr (T 178), rr (T 179), rr (T 180), rr (T 181), rr (T 182), rr (T 183), rr (T 184), rr (T 185), rr (T 186), rr (T 187), rr (T 188), rr (T 189), rr (T 190), rr (T 191), rr (T 192), rr (T 193), rr (T 194), rr (T 195), rr (T 196), rr (T 197), rr (T 198), rr (T 199), rr (T 200), rr (T 201), rr (T 202), rr (T 203), rr (T 204), rr (T 205), rr (T 206), rr (T 207), rr (T 208), rr (T 209), rr (T 210), rr (T 211), rr (T 212), rr (T 213), rr (T 214), rr (T 215), rr (T 216), rr (T 217), rr (T 218), rr (T 219), rr (T 220), rr (T 221), rr (T 222), rr (T 223), rr (T 224), rr (T 225), rr (T 226), rr (T 227), rr (T 228), rr (T 229), rr (T 230), rr (T 231), rr (T 232), rr (T 233), rr (T 234), rr (T 235), rr (T 236), rr (T 237), rr (T 238), rr (T 239), rr (T 240), rr (T 241), rr (T 242), rr (T 243), rr (T 244), rr (T 245), rr (T 246), rr (T 247), rr (T 248), rr (T 249), rr (T 250), rr (T 251), rr (T 252), rr (T 253), rr (T 254), rr (T 255), rr (T 256), rr (T 257), rr (T 258), rr (T 259), rr (T 260), rr (T 261), rr (T 262), rr (T 263), rr (T 264), rr (T 265), rr (T 266), rr (T 267), rr (T 268), rr (T 269), rr (T 270), rr (T 271), rr (T 272), rr (T 273), rr (T 274), rr (T 275), rr (T 276), rr (T 277), rr (T 278), rr (T 279), rr (T 280), rr (T 281), rr (T 282), rr (T 283), rr (T 284), rr (T 285), rr (T 286), rr (T 287), rr (T 288), rr (T 289), rr (T 290), rr (T 291), rr (T 292), rr (T 293), rr (T 294), rr (T 295), rr (T 296), rr (T 297), rr (T 298), rr (T 299), rr (T 300), rr (T 301), rr (T 302), rr (T 303), rr (T 304), rr (T 305), rr (T 306), rr (T 307), rr (T 308), rr (T 309), rr (T 310), rr (T 311), rr (T 312), rr (T 313), rr (T 314), rr (T 315), rr (T 316), rr (T 317), rr (T 318), rr (T 319)] i undef, wd, dp, s, ks, os, Ak, ck, Ao, co, ba, bc, bb, bm, Aa, ca, Ac, cc, Ab, cb, Am, cm, gs, 1 + r, _, by kernel_rfl, OK, ⟨by omega, by omega⟩, KA, KB, ⟨hF.tw, hF.old, hF.low, hF.glob, fun f hf => ?_, hF.sub, hF.ow, hF.dis⟩⟩
  rcases List.mem_cons.1 hf with rfl | hf
  · exact ssr_two (hF.fc _ (List.mem_cons_self)) (hF.fc (.arg Ak ks) (by simp)) (hF.fc (.arg Ao os) (by simp))
  · exact hF.fc f (List.mem_cons_of_mem _ hf)
end
end Go.Proofs.Ytmmolicodlmlkaa.Ph
namespace Go.Proofs.Ytmmolicodlmlkaa.Ph
open Go.Conc Go.ConcN Go.RowKit Go.Conc.Lib Go.ConcR.Gen Go.ConcN.Gen
open Go.ConcR (KK wgBlock WgAt stA smA rd wr mk DC0 Payload)
open Go.Proofs.Ytmmolicodlmlkaa.Rel
set_option linter.unusedVariables false
set_option linter.unusedSimpArgs false

def fcFs : FuncId → Bool := fun f => [42, 43, 44, 45, 46, 47, 48, 49, 63, 66, 73, 78, 92, 97, 99, 100, 102, 103, 104, 105, 106, 107, 110, 111, 114, 123, 131, 139].contains f
theorem fcFs_0 : fnOk Try.prog fcFs Try.f42 = true := by kernel_rfl
theorem fcFs_1 : fnOk Try.prog fcFs Try.f43 = true := by kernel_rfl
theorem fcFs_2 : fnOk Try.prog fcFs Try.f44 = true := by kernel_rfl
theorem fcFs_3 : fnOk Try.prog fcFs Try.f45 = true := by kernel_rfl
theorem fcFs_4 : fnOk Try.prog fcFs Try.f46 = true := by kernel_rfl
theorem fcFs_5 : fnOk Try.prog fcFs Try.f47 = true := by kernel_rfl
theorem fcFs_6 : fnOk Try.prog fcFs Try.f48 = true := by kernel_rfl
theorem fcFs_7 : fnOk Try.prog fcFs Try.f49 = true := by kernel_rfl
theorem fcFs_8 : fnOk Try.prog fcFs Try.f63 = true := by kernel_rfl
theorem fcFs_9 : fnOk Try.prog fcFs Try.f66 = true := by kernel_rfl
theorem fcFs_10 : fnOk Try.prog fcFs Try.f73 = true := by kernel_rfl
theorem fcFs_11 : fnOk Try.prog fcFs Try.f78 = true := by kernel_rfl
theorem fcFs_12 : fnOk Try.prog fcFs Try.f92 = true := by kernel_rfl
theorem fcFs_13 : fnOk Try.prog fcFs Try.f97 = true := by kernel_rfl
theorem fcFs_14 : fnOk Try.prog fcFs Try.f99 = true := by kernel_rfl
theorem fcFs_15 : fnOk Try.prog fcFs Try.f100 = true := by kernel_rfl
theorem fcFs_16 : fnOk Try.prog fcFs Try.f102 = true := by kernel_rfl
theorem fcFs_17 : fnOk Try.prog fcFs Try.f103 = true := by kernel_rfl
theorem fcFs_18 : fnOk Try.prog fcFs Try.f104 = true := by kernel_rfl
theorem fcFs_19 : fnOk Try.prog fcFs Try.f105 = true := by kernel_rfl
theorem fcFs_20 : fnOk Try.prog fcFs Try.f106 = true := by kernel_rfl
theorem fcFs_21 : fnOk Try.prog fcFs Try.f107 = true := by kernel_rfl
theorem fcFs_22 : fnOk Try.prog fcFs Try.f110 = true := by kernel_rfl
theorem fcFs_23 : fnOk Try.prog fcFs Try.f111 = true := by kernel_rfl
theorem fcFs_24 : fnOk Try.prog fcFs Try.f114 = true := by kernel_rfl
theorem fcFs_25 : fnOk Try.prog fcFs Try.f123 = true := by kernel_rfl
theorem fcFs_26 : fnOk Try.prog fcFs Try.f131 = true := by kernel_rfl
theorem fcFs_27 : fnOk Try.prog fcFs Try.f139 = true := by kernel_rfl
theorem fcFs_ok : ∀ f, fcFs f = true → ∃ fn, Try.prog.funcs[f]? = some fn ∧ fnOk Try.prog fcFs fn = true := by
  intro f hf
  simp [fcFs] at hf
  rcases hf with rfl | rfl | rfl | rfl | rfl | rfl | rfl | rfl | rfl | rfl | rfl | rfl | rfl | rfl | rfl | rfl | rfl | rfl | rfl | rfl | rfl | rfl | rfl | rfl | rfl | rfl | rfl | rfl
  · exact ⟨_, Try.func42, fcFs_0⟩
  · exact ⟨_, Try.func43, fcFs_1⟩
  · exact ⟨_, Try.func44, fcFs_2⟩
  · exact ⟨_, Try.func45, fcFs_3⟩
  · exact ⟨_, Try.func46, fcFs_4⟩
  · exact ⟨_, Try.func47, fcFs_5⟩
  · exact ⟨_, Try.func48, fcFs_6⟩
  · exact ⟨_, Try.func49, fcFs_7⟩
  · exact ⟨_, Try.func63, fcFs_8⟩
  · exact ⟨_, Try.func66, fcFs_9⟩
  · exact ⟨_, Try.func73, fcFs_10⟩
  · exact ⟨_, Try.func78, fcFs_11⟩
  · exact ⟨_, Try.func92, fcFs_12⟩
  · exact ⟨_, Try.func97, fcFs_13⟩
  · exact ⟨_, Try.func99, fcFs_14⟩
  · exact ⟨_, Try.func100, fcFs_15⟩
  · exact ⟨_, Try.func102, fcFs_16⟩
  · exact ⟨_, Try.func103, fcFs_17⟩
  · exact ⟨_, Try.func104, fcFs_18⟩
  · exact ⟨_, Try.func105, fcFs_19⟩
  · exact ⟨_, Try.func106, fcFs_20⟩
  · exact ⟨_, Try.func107, fcFs_21⟩
  · exact ⟨_, Try.func110, fcFs_22⟩
  · exact ⟨_, Try.func111, fcFs_23⟩
  · exact ⟨_, Try.func114, fcFs_24⟩
  · exact ⟨_, Try.func123, fcFs_25⟩
  · exact ⟨_, Try.func131, fcFs_26⟩
  · exact ⟨_, Try.func139, fcFs_27⟩
theorem fy15_ok : opsOk Try.prog ⟨fcFs, fun _ => false, fun _ => false, fun _ => false⟩ fy15 [10, 11, 12, 13, 14, 15] = true := by kernel_rfl
theorem fc16_ok : codeOk Try.prog ⟨fcFs, fun _ => false, fun _ => false, fun _ => false⟩ fc16 = true := by kernel_rfl
set_option maxRecDepth 100000 in
theorem fput (T : Nat → Value) (v0 v1 v5 v6 v7 v8 v9 v11 v12 v13 v14 v23 v24 v25 v26 v : Value) : Act.put ⟨arrF T v0 v1 v5 v6 v7 v8 v9 v11 v12 v13 v14 v23 v24 v25 v26, []⟩ ((fy15[9]?).bind (·.dst)) v = ⟨arrF1 T v0 v1 v5 v6 v7 v8 v9 v11 v12 v13 v14 v23 v24 v25 v26 v, []⟩ := by kernel_rfl
set_option maxRecDepth 100000 in
set_option maxHeartbeats 1600000 in
theorem fl_gate (A : Option Addr) (c : Nat) (A' : Option Addr) (c' n n' : Nat) (w : World) (h : 1048576 < n ∨ 1048576 < n') :
    Rets Try.prog 9 15 fbody (fun u w' => u = .bool true) (actF A n c A' n' c') w := by
  simp only [Rets, fbody, Try.f9, cut]
  have hd : decide (1048576 < n ∨ 1048576 < n') = true := decide_eq_true h
  have C0 : Hid (∀ w, Calls Try.prog 34 #[.slice A n c, .slice A' n' c'] w fun e w' => e = .returned (.bool true) ∧ w = w') := fun w => hd ▸ b10Long_any A A' n n' c c' w
  clear hd h
  go_wp2_with (go_at_call 34; refine (C0.out _).mono ?_; rintro e w' ⟨rfl, rfl⟩)
  kernel_rfl
section
variable {W₀ : World} {l : List Fc} {F S : Nat → Prop} {own : List ((Nat → Prop) × Fc)} {w w' : World} {A A' : Option Addr} {c c' : Nat} {x y : List Int}
set_option maxRecDepth 100000 in
theorem f_ends (hF : LH W₀ [] F [] S w) (hA : ArgP (fun y => y < W₀.heap.size) W₀ A) (hA' : ArgP (fun y => y < W₀.heap.size) W₀ A') (h : 1048576 < x.length ∨ 1048576 < y.length) : GL Try.prog (LawEnd W₀) S (G (Frame.enter Try.prog 9 #[.slice A x.length c, .slice A' y.length c'] .normal) []) w := by
  have x2 : ArgP S w A := fun a ha => ⟨hF.sub _ (hF.old _ (hA a ha).1).1, (hA a ha).2.stay (hF.old _ (hA a ha).1).2⟩
  have y2 : ArgP S w A' := fun a ha => ⟨hF.sub _ (hF.old _ (hA' a ha).1).1, (hA' a ha).2.stay (hF.old _ (hA' a ha).1).2⟩
  have ha : ∀ z ∈ (actF A x.length c A' y.length c').tmps, okV (fnsQ faFs w S No) w.heap.size z = true := by
    intro z hz
    simp [arrF] at hz
    rcases hz with rfl | rfl | rfl
    · exact okV_arg hF.lf x2
    · exact okV_arg hF.lf y2
    · exact okV_undef _ _
  rw [fl_enter]
  exact law_ret hF Try.func9 rfl (by kernel_rfl) (gl_ret (fs := faFs) (W := No) (fun b h => h.elim) hF.low zero_ok hF.glob faFs_ok Try.func9 fl_results fl_spine rfl ha fun τ => fl_gate A c A' c' _ _ _ h)
theorem lone_bc {fset : FuncId → Bool} {b n c : Nat} {d0 d1 d2 : Int} {A : Option Addr} (h : LH W₀ l F own S w) (hb : (Fc.box b #[.int .i64 d0, .int .i64 d1, .int .i64 d2, .slice A n c] 37).holds S w) (hA : ArgP S w A) : Bc (loneW (fnsQ fset w S No) w) b d0 d1 d2 A n c := by
  have key : ∀ i u, (#[.int .i64 d0, .int .i64 d1, .int .i64 d2, .slice A n c] : Array Value)[i]? = some u → okV (fnsQ fset w S No) w.heap.size u = true → (loneW (fnsQ fset w S No) w).cell? ⟨b, i, none⟩ = some u := fun i u h1 h2 =>
    loneW_at (a := ⟨b, i, none⟩) (by simp only [World.cell?, hb.2]; exact h1) rfl (fnsQ_old (h.low _ hb.1) hb.1 (by rw [hb.2]; rfl)) (fnsQ_no (h.low _ hb.1)) h2
  exact ⟨key 0 _ rfl (by simp), key 1 _ rfl (by simp), key 2 _ rfl (by simp), key 3 _ rfl (okV_arg h.lf hA)⟩
theorem okV_boxF {fset : FuncId → Bool} {b : Nat} {vs : Array Value} {t : TypeId} (h : LH W₀ l F own S w) (hb : (Fc.box b vs t).holds S w) : okV (fnsQ fset w S No) w.heap.size (ptrB b) = true := by rw [okV_pointer]; exact fnsQ_ok h.low hb.1 (by rw [hb.2]; rfl)
set_option maxRecDepth 100000 in
set_option maxHeartbeats 4000000 in
theorem f_c {T : Nat → Value} {wd dp s : Nat} {ks os : List Int} {Ak : Option Addr} {ck : Nat} {Ao : Option Addr} {co ba bc bb bm : Nat} {Aa : Option Addr} {ca : Nat} {Ac : Option Addr} {cc : Nat} {Ab : Option Addr} {cb : Nat} {Am : Option Addr} {cm gs : Nat} {Ag : Option Addr} {cg : Nat} {Gg : Nat → Prop} (hA : ArgP (fun y => y < W₀.heap.size) W₀ A) (hA' : ArgP (fun y => y < W₀.heap.size) W₀ A') (OK : FcOk wd dp s ks os) (KA : wd * dp ≤ ca ∧ ca ≤ 9223372036854775807) (KB : wd * dp ≤ cb ∧ cb ≤ 9223372036854775807) (hF : LH W₀ (.ss (some ⟨gs, 0, none⟩) [ks, os] :: [.arg Ak ks, .arg Ao os, .box ba #[.int .i64 (wd : Nat), .int .i64 (dp : Nat), .int .i64 (s : Nat), .slice Aa (wd * dp) ca] 37, .box bc #[.int .i64 (wd : Nat), .int .i64 (dp : Nat), .int .i64 (s : Nat), .slice Ac (wd * dp) cc] 37, .box bb #[.int .i64 (wd : Nat), .int .i64 (dp : Nat), .int .i64 (s : Nat), .slice Ab (wd * dp) cb] 37, .box bm #[.int .i64 (wd : Nat), .int .i64 (dp : Nat), .int .i64 (s : Nat), .slice Am (wd * dp) cm] 37, .arg Aa (putC wd s dp ks), .arg Ac (carC wd s dp ks), .arg Ab (putC wd s dp os), .arg Am (bothC wd s dp ks os)]) F [(Gg, .own Ag (bothC wd s dp ks os))] S w) :
    GL Try.prog (LawEnd W₀) S (G ((base 9).at (Act.put ⟨arrF T (.slice A x.length c) (.slice A' y.length c') (.slice Ak ks.length ck) (.slice Ao os.length co) (.int .i64 (wd : Nat)) (.int .i64 (dp : Nat)) (.int .i64 (s : Nat)) (.bool true) (ptrB ba) (ptrB bc) (ptrB bb) (ptrB bm) (.bool true) (.int .i64 (ks.length : Nat)) (.bool true), []⟩ ((fy15[9]?).bind (·.dst)) (.tuple #[cellV (wd : Nat) (dp : Nat) (s : Nat) Ag (wd * dp) cg, .bool true])) [.inRegion fy15 [10, 11, 12, 13, 14, 15], .code fc16]) []) w := by
  rw [fput]
  have x2 : ArgP S w A := fun a ha => ⟨hF.sub _ (hF.old _ (hA a ha).1).1, (hA a ha).2.stay (hF.old _ (hA a ha).1).2⟩
  have y2 : ArgP S w A' := fun a ha => ⟨hF.sub _ (hF.old _ (hA' a ha).1).1, (hA' a ha).2.stay (hF.old _ (hA' a ha).1).2⟩
  have gK := hF.base (f := .arg Ak ks) (by simp)
  have gO := hF.base (f := .arg Ao os) (by simp)
  have ga := hF.base (f := .box ba #[.int .i64 (wd : Nat), .int .i64 (dp : Nat), .int .i64 (s : Nat), .slice Aa (wd * dp) ca] 37) (by simp)
  have gc := hF.base (f := .box bc #[.int .i64 (wd : Nat), .int .i64 (dp : Nat), .int .i64 (s : Nat), .slice Ac (wd * dp) cc] 37) (by simp)
  have gb := hF.base (f := .box bb #[.int .i64 (wd : Nat), .int .i64 (dp : Nat), .int .i64 (s : Nat), .slice Ab (wd * dp) cb] 37) (by simp)
  have gm := hF.base (f := .box bm #[.int .i64 (wd : Nat), .int .i64 (dp : Nat), .int .i64 (s : Nat), .slice Am (wd * dp) cm] 37) (by simp)
  have ha := hF.base (f := .arg Aa (putC wd s dp ks)) (by simp)
  have hc := hF.base (f := .arg Ac (carC wd s dp ks)) (by simp)
  have hb := hF.base (f := .arg Ab (putC wd s dp os)) (by simp)
  have hm := hF.base (f := .arg Am (bothC wd s dp ks os)) (by simp)
  have hg := hF.mine (p := (Gg, .own Ag (bothC wd s dp ks os))) (by simp)
  have okG : okV (fnsQ fcFs w S No) w.heap.size (.tuple #[cellV (wd : Nat) (dp : Nat) (s : Nat) Ag (wd * dp) cg, .bool true]) = true := by
    have := okV_arg (fs := fcFs) (n := wd * dp) (c := cg) hF.lf hg.2.p
    simp [okV_tuple, okV_agg, this]
  refine law_ret hF Try.func9 rfl (by kernel_rfl) (gl_endM (fs := fcFs) (W := No) (fun b h => h.elim) hF.low zero_ok hF.glob fcFs_ok Try.func9 fl_results fc16_ok fy15_ok rfl fun τ => ?_)
  rw [abs_arrF1, absV_same (.slice A x.length c) (okV_arg hF.lf x2), absV_same (.slice A' y.length c') (okV_arg hF.lf y2), absV_same (.slice Ak ks.length ck) (okV_arg hF.lf gK.2), absV_same (.slice Ao os.length co) (okV_arg hF.lf gO.2), absV_same (.int .i64 (wd : Nat)) (by simp), absV_same (.int .i64 (dp : Nat)) (by simp), absV_same (.bool true) (by simp), absV_same _ (okV_boxF hF ga), absV_same _ (okV_boxF hF gc), absV_same _ (okV_boxF hF gb), absV_same _ (okV_boxF hF gm), absV_same (.int .i64 (ks.length : Nat)) (by simp), absV_same _ okG]
  exact fc_tail _ _ _ _ wd dp s ks os Ak ck Ao co ba bc bb bm Aa ca Ac cc Ab cb Am cm Ag cg _ OK KA KB
    ⟨lone_rdl hF.lf gK.1 gK.2, lone_rdl hF.lf gO.1 gO.2, lone_bc hF ga ha.2, lone_bc hF gc hc.2, lone_bc hF gb hb.2, lone_bc hF gm hm.2, lone_rdl hF.lf ha.1 ha.2, lone_rdl hF.lf hc.1 hc.2, lone_rdl hF.lf hb.1 hb.2, lone_rdl hF.lf hm.1 hm.2, lone_rdl hF.lf hg.1.rd hg.2.p⟩
end
set_option maxRecDepth 100000 in
set_option maxHeartbeats 16000000 in
/-- ████ FnCells: ONE GOOD RUN. ████ -/
theorem frun {W : World} {A A' : Option Addr} {c c' : Nat} {x y : List Int} (hG : Try.prog.globals.size ≤ W.heap.size) (hx : RdL (Value.int .u8) W A x) (hbx : Byt x) (hA : ArgP (fun y => y < W.heap.size) W A) (hy : RdL (Value.int .u8) W A' y) (hby : Byt y) (hA' : ArgP (fun y => y < W.heap.size) W A') :
    ∃ M last o w' t', runNT Try.prog (M + 1) (solo (G (Frame.enter Try.prog 9 #[.slice A x.length c, .slice A' y.length c'] .normal) []) W) #[] = (.ended o w', t') ∧
      runN Try.prog M (solo (G (Frame.enter Try.prog 9 #[.slice A x.length c, .slice A' y.length c'] .normal) []) W) = .next last ∧ step Try.prog last = .ended o w' ∧ Go.Conc.Good Try.prog (fun v W' => v = .bool true ∧ Below W.heap.size W W') last o w' t' := by
  have hAt0 := at_start (P := Try.prog) (g := G (Frame.enter Try.prog 9 #[.slice A x.length c, .slice A' y.length c'] .normal) []) (w := W)
  have hH0 : LH W [] (fun y => y < W.heap.size) [] (FreeB (fun _ => False) W) W :=
    ⟨⟨rfl, rfl, rfl⟩, fun y hy => ⟨hy, rfl⟩, fun y hy => hy.1, hG, fun f hf => (by cases hf), fun y hy => ⟨hy, fun l _ h => h⟩, by simp, List.Pairwise.nil⟩
  by_cases hg : 1048576 < x.length ∨ 1048576 < y.length
  · exact ends_at (K := 0) rfl hAt0 (fun y hy => hy) (f_ends hH0 hA hA' hg)
  obtain ⟨K1, m1, t1, gg, w1, S1, r1, hAt1, ⟨T, wd, dp, s, ks, os, Ak, ck, Ao, co, ba, bc, bb, bm, Aa, ca, Ac, cc, Ab, cb, Am, cm, gs, kw, F1, rfl, OK, kwb, KA, KB, hH1⟩, hf1, _⟩ :=
    hAt0.walk (fun S g w d ⟨T, wd, dp, s, ks, os, Ak, ck, Ao, co, ba, bc, bb, bm, Aa, ca, Ac, cc, Ab, cb, Am, cm, gs, kw, F', h1, h2, h3, h4, h5, h6⟩ => ⟨T, wd, dp, s, ks, os, Ak, ck, Ao, co, ba, bc, bb, bm, Aa, ca, Ac, cc, Ab, cb, Am, cm, gs, kw, F', h1, h2, h3, h4, h5, h6.at⟩) (f_a (c := c) (c' := c') hH0 hx hA hbx (by omega) hy hA' hby (by omega))
  have b1 := OK.w1; have b2 := OK.w2; have b3 := OK.d1; have b4 := OK.d2; have b5 := OK.s2
  obtain ⟨K2, m2, t2, w2, Shun2, Ag, cg, Gg, r2, hAt2, hH2⟩ := cells_at (a0 := (wd : Int)) (a1 := (dp : Int)) (a2 := (s : Int)) (A := some ⟨gs, 0, none⟩) (c := 2) (xss := [ks, os]) (kw := kw) hAt1 hH1 hf1 (w64_of (by omega)) (w64_of (by omega)) (w64_of (by omega)) (hH1.base (f := .ss (some ⟨gs, 0, none⟩) [ks, os]) (by simp))
  have hgt := OK.gate kwb.1 kwb.2
  have hcnt : cntOf (gateCS (wd : Int) (dp : Int) (s : Int) [ks, os] kw) wd dp s [ks, os] = bothC wd s dp ks os := by
    rw [hgt]
    exact shared_is
  rw [hcnt, hgt] at hAt2
  rw [hcnt] at hH2
  simp only [hdOf, if_true, bothC_length] at hAt2
  exact ends_at (run_trans r1 r2) hAt2 (fun y hy => hy) (f_c hA hA' OK KA KB hH2)
end Go.Proofs.Ytmmolicodlmlkaa.Ph
