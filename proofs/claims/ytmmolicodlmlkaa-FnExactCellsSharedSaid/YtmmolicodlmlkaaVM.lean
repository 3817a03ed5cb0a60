/-
  Parts of the proof: impl.CellsShared beside leavers: to its call of sharedWork, or to its return where nothing is worked on. impl.CellsShared from behind sharedWork to its return, alone. impl.CellsShared at the machine: called beside leavers, and come back: with the cells of all lists, or with nothing. The reference's CellsShared, by contract: the whole. FnCellsSharedOfAll, alone: cells that the program has made, called by a law. The reference's CellsShared and a copy of rows, called by a law beside leavers. FnExactCellsShared, alone: the pieces between its calls. No condition.
-/
import Derived.Test.YtmmolicodlmlkaaVL
import Derived.Test.YtmmolicodlmlkaaVI
import Derived.Test.YtmmolicodlmlkaaVK
import Derived.Test.YtmmolicodlmlkaaVJ
set_option linter.unusedVariables false
set_option linter.unusedSimpArgs false
namespace Go.Proofs.Ytmmolicodlmlkaa.Ph
open Go.Conc Go.ConcN Go.RowKit Go.Conc.Lib Go.ConcR.Gen Go.ConcN.Gen
open Go.ConcR (KK wgBlock WgAt stA smA rd wr mk DC0 Payload)
open Go.Proofs.Ytmmolicodlmlkaa.Rel
set_option linter.unusedVariables false
set_option linter.unusedSimpArgs false

def cpFs : FuncId → Bool := fun f => [37, 43, 63, 65, 79, 80, 88, 89, 97, 98, 105, 123, 124, 129, 131, 139].contains f
theorem cpFs_0 : fnOk Try.prog cpFs Try.f37 = true := by kernel_rfl
theorem cpFs_1 : fnOk Try.prog cpFs Try.f43 = true := by kernel_rfl
theorem cpFs_2 : fnOk Try.prog cpFs Try.f63 = true := by kernel_rfl
theorem cpFs_3 : fnOk Try.prog cpFs Try.f65 = true := by kernel_rfl
theorem cpFs_4 : fnOk Try.prog cpFs Try.f79 = true := by kernel_rfl
theorem cpFs_5 : fnOk Try.prog cpFs Try.f80 = true := by kernel_rfl
theorem cpFs_6 : fnOk Try.prog cpFs Try.f88 = true := by kernel_rfl
theorem cpFs_7 : fnOk Try.prog cpFs Try.f89 = true := by kernel_rfl
theorem cpFs_8 : fnOk Try.prog cpFs Try.f97 = true := by kernel_rfl
theorem cpFs_9 : fnOk Try.prog cpFs Try.f98 = true := by kernel_rfl
theorem cpFs_10 : fnOk Try.prog cpFs Try.f105 = true := by kernel_rfl
theorem cpFs_11 : fnOk Try.prog cpFs Try.f123 = true := by kernel_rfl
theorem cpFs_12 : fnOk Try.prog cpFs Try.f124 = true := by kernel_rfl
theorem cpFs_13 : fnOk Try.prog cpFs Try.f129 = true := by kernel_rfl
theorem cpFs_14 : fnOk Try.prog cpFs Try.f131 = true := by kernel_rfl
theorem cpFs_15 : fnOk Try.prog cpFs Try.f139 = true := by kernel_rfl
theorem cpFs_ok : ∀ f, cpFs f = true → ∃ fn, Try.prog.funcs[f]? = some fn ∧ fnOk Try.prog cpFs fn = true := by
  intro f hf
  simp [cpFs] at hf
  rcases hf with rfl | rfl | rfl | rfl | rfl | rfl | rfl | rfl | rfl | rfl | rfl | rfl | rfl | rfl | rfl | rfl
  · exact ⟨_, Try.func37, cpFs_0⟩
  · exact ⟨_, Try.func43, cpFs_1⟩
  · exact ⟨_, Try.func63, cpFs_2⟩
  · exact ⟨_, Try.func65, cpFs_3⟩
  · exact ⟨_, Try.func79, cpFs_4⟩
  · exact ⟨_, Try.func80, cpFs_5⟩
  · exact ⟨_, Try.func88, cpFs_6⟩
  · exact ⟨_, Try.func89, cpFs_7⟩
  · exact ⟨_, Try.func97, cpFs_8⟩
  · exact ⟨_, Try.func98, cpFs_9⟩
  · exact ⟨_, Try.func105, cpFs_10⟩
  · exact ⟨_, Try.func123, cpFs_11⟩
  · exact ⟨_, Try.func124, cpFs_12⟩
  · exact ⟨_, Try.func129, cpFs_13⟩
  · exact ⟨_, Try.func131, cpFs_14⟩
  · exact ⟨_, Try.func139, cpFs_15⟩

theorem cp_spine4 : spineOk Try.prog ⟨cpFs, fun _ => false, fun _ => false, fun _ => false⟩ 4 csCode = true := by kernel_rfl
theorem cp_spine3 : spineOk Try.prog ⟨cpFs, fun _ => false, fun _ => false, fun _ => false⟩ 3 csCode = true := by kernel_rfl
theorem cp_body : Try.f28.body = some csCode := rfl
set_option maxRecDepth 100000 in
theorem cp_enter (a0 a1 a2 : Int) (A : Option Addr) (n c : Nat) (kw : Int) : Frame.enter Try.prog 28 #[.int .i64 a0, .int .i64 a1, .int .i64 a2, .slice A n c, .int .i64 kw] .normal = (base 28).at (actCS a0 a1 a2 A n c kw) [.code csCode] := by
  rw [enter_at _ Try.func28 cp_body]
  kernel_rfl
theorem cp_results : Try.f28.results.all resOk = true := by kernel_rfl
noncomputable def cp5 : Array Oper := match Try.f28.body with | some (.seq _ (.seq _ (.seq _ (.seq _ (.seq (.region _ ops _) _))))) => ops | _ => #[]
noncomputable def cpTail : Code := match Try.f28.body with | some (.seq _ (.seq _ (.seq _ (.seq _ (.seq _ c))))) => c | _ => .skip
section
variable {F : Nat → Prop} {w : World} {a0 a1 a2 : Int} {A : Option Addr} {c n : Nat} {xss : List (List Int)} {kw : Int} {cs : List Frame} {b₀ : Frame} {a₀ : Act} {ops₀ : Array Oper} {i₀ : Nat} {rest₀ : List Nat} {k₀ : List Item}
theorem cp_args (hF : ∀ b, F b → b < w.heap.size) (hA : ArgP F w A) (n : Nat) : ∀ z ∈ (actCS a0 a1 a2 A n c kw).tmps, okV (fnsQ cpFs w F No) w.heap.size z = true := by
  intro z hz
  simp at hz
  rcases hz with rfl | rfl | rfl | rfl | rfl | rfl
  · simp
  · simp
  · simp
  · cases A with
    | none => simp
    | some a =>
      rw [okV_sliceA _ _ _ _ (hA a rfl).2.2]
      exact fnsQ_ok hF (hA a rfl).1 (hA a rfl).2.1
  · simp
  · exact okV_undef _ _
theorem cp_lone (hF : ∀ b, F b → b < w.heap.size) (hA : SSr F w A xss) : RdLL (loneW (fnsQ cpFs w F No) w) A xss := by
  intro o ho
  have okA : ∀ {B : Option Addr} (m cc : Nat), ArgP F w B → okV (fnsQ cpFs w F No) w.heap.size (.slice B m cc) = true := fun {B} m cc hB => by
    cases B with
    | none => simp
    | some a =>
      rw [okV_sliceA _ _ _ _ (hB a rfl).2.2]
      exact fnsQ_ok hF (hB a rfl).1 (hB a rfl).2.1
  obtain ⟨C, k, R, cc, e1, e2, e3, e4⟩ := hA.2 o ho
  have lt := fun b h => hF b h
  have hc := loneW_any (Fs := fnsQ cpFs w F No) (a := ⟨C, k + o, none⟩) e2 rfl (fnsQ_old (lt _ (hA.1 _ e1).1) (hA.1 _ e1).1 (hA.1 _ e1).2.1) (fnsQ_no (lt _ (hA.1 _ e1).1))
  rcases e4 with e4 | ⟨e4, rfl⟩
  · exact ⟨C, k, R, cc, e1, hc.trans (by rw [absV_same _ (okA _ _ e4)]),
      rdl_look e3 (fun _ => by simp) fun b o _ e => ⟨rfl, fnsQ_old (lt _ (e4 _ e).1) (e4 _ e).1 (e4 _ e).2.1, fnsQ_no (lt _ (e4 _ e).1)⟩⟩
  · rw [e4] at hc
    obtain ⟨R', h'⟩ := absV_empty (Fs := fnsQ cpFs w F No) (B := w.heap.size) R
    exact ⟨C, k, R', 0, e1, by rw [e4]; exact hc.trans (congrArg some h'), by rw [e4]; intro i hi; simp at hi⟩
theorem cp_no (hF : ∀ b, F b → b < w.heap.size) (hG : Try.prog.globals.size ≤ w.heap.size) (h0 : W64 a0) (h1 : W64 a1) (h2 : W64 a2) (hx : SSr F w A xss) (hg : gateCS a0 a1 a2 xss kw = false) :
    GL Try.prog (fun t g w' => g = G (b₀.at (a₀.put ((ops₀[i₀]?).bind (·.dst)) noCs) (.inRegion ops₀ rest₀ :: k₀)) cs ∧ LK [] F w t w') F
      (G (Frame.enter Try.prog 28 #[.int .i64 a0, .int .i64 a1, .int .i64 a2, .slice A xss.length c, .int .i64 kw] .normal) (b₀.at a₀ (.inRegion ops₀ (i₀ :: rest₀) :: k₀) :: cs)) w := by
  rw [cp_enter]
  have h1 := gl_back (b₀ := b₀) (a₀ := a₀) (ops₀ := ops₀) (i₀ := i₀) (rest₀ := rest₀) (k₀ := k₀) (cs := cs) (fun b h => h.elim) (gl_ret (P := Try.prog) (fs := cpFs) (v := w) (F := F) (W := No) (f := 28) (c := csCode) (n := 3) (a := actCS a0 a1 a2 A xss.length c kw) (Q := fun u w' => u = noCs) (fun b h => h.elim) hF zero_ok hG cpFs_ok
    Try.func28 cp_results cp_spine3 rfl (cp_args hF hx.1 _) (fun τ => by
      have := cs_rets a0 a1 a2 A c xss kw { loneW (fnsQ cpFs w F No) w with tape := τ, drawn := 0 } h0 h1 h2 (cp_lone hF hx) hg
      unfold Rets at this ⊢
      exact Code.wp_mono (fun e a w' ⟨h1, h2, fn, v, h3, h4, h5, _⟩ => ⟨h1, h2, fn, v, h3, h4, h5⟩) this))
  refine Go1.widen h1 ?_
  rintro t g w' ⟨s, rfl, ρ, u, wl, rfl, rfl, hok, hL⟩
  refine ⟨by simp [noCs], lk_left hF hL⟩
set_option maxRecDepth 100000 in
set_option maxHeartbeats 4000000 in
/-- To the call of sharedWork. -/
theorem cp_gl (hF : ∀ b, F b → b < w.heap.size) (hG : Try.prog.globals.size ≤ w.heap.size) (h0 : W64 a0) (h1 : W64 a1) (h2 : W64 a2) (hx : SSr F w A xss) (hg : gateCS a0 a1 a2 xss kw = true) (hn : (n : Int) = a0 * a1) :
    GL Try.prog (fun t g w' => ∃ T bl br bo bm C g0 cells, cells.size = 4 * xss.length ∧ bl ≠ C ∧ br ≠ C ∧ bo ≠ C ∧ bm ≠ C ∧ g0 ≠ C ∧ bl ≠ g0 ∧ br ≠ g0 ∧ bo ≠ g0 ∧ bm ≠ g0 ∧ bo ≠ br ∧ bm ≠ br ∧ bl ≠ br ∧
      g = G (Frame.enter Try.prog 81 #[.int .i64 xss.length, .int .i64 kw, .func (.func 90) #[] #[ptr bo, ptr bl, ptr bm]] .normal)
        ((base 28).at ⟨arrCS T kw bl br bo bm, []⟩ [.inRegion cp5 [4], .code cpTail] :: cs) ∧
      LK [(bl, #[.slice A xss.length c], 29), (br, #[.int .i64 0, .int .i64 0, .int .i64 0, .slice none 0 0], 37), (bo, #[.int .i64 a0, .int .i64 a1, .int .i64 a2, .slice (some ⟨g0, 0, none⟩) n n], 37), (bm, #[.slice (some ⟨C, 0, none⟩) xss.length xss.length], 78), (C, cells, 37), (g0, ((List.replicate n (0 : Int)).map (Value.int .i64)).toArray, 2)] F w t w') F
      (G (Frame.enter Try.prog 28 #[.int .i64 a0, .int .i64 a1, .int .i64 a2, .slice A xss.length c, .int .i64 kw] .normal) cs) w := by
  rw [cp_enter]
  have hcut := gl_cut (P := Try.prog) (fs := cpFs) (v := w) (F := F) (W := No) (cs := cs) (f := 28) (c := csCode) (n := 4) (a := actCS a0 a1 a2 A xss.length c kw) (Pre := PreCS a0 a1 a2 A c xss kw n w.heap.size) (fun b h => h.elim) hF zero_ok hG cpFs_ok cp_spine4 rfl (cp_args hF hx.1 _) (fun τ => by
    have := cs_reach a0 a1 a2 A c xss kw n { loneW (fnsQ cpFs w F No) w with tape := τ, drawn := 0 } h0 h1 h2 (cp_lone hF hx) hg hn
    have e : ({ loneW (fnsQ cpFs w F No) w with tape := τ, drawn := 0 } : World).heap.size = w.heap.size := loneW_size
    rw [e] at this
    exact this)
  refine Go1.bind (fun _ a => RS.refl a) hcut ?_
  rintro t g w' ⟨s, rfl, ρ, a', wl, rfl, ⟨bl, br, bo, bm, C, g0, hd, ht, l1, l2, l3, l4, l5, l6, n1, n2, n3, n4, n5, n6, n7, n8, n9, n10, n11, n12, q1, q2, q3, q4, ⟨cells, q5, q6⟩, q7⟩, hok, hL⟩
  have hnew : ∀ b, w.heap.size ≤ b → (fnsQ cpFs w F No).al b = true := fun b hb => (fnsOf_new hb).1
  have ea : A.map (renS ρ) = A := by
    have hB := hx.1
    cases A with
    | none => rfl
    | some a =>
      have := hL.id a.block (hF _ (hB a rfl).1)
      rw [Option.map_some, renS_none _ (hB a rfl).2.2]
      simp only [renA, this]
  have hK : LK [(ρ.f bl, #[.slice A xss.length c], 29), (ρ.f br, #[.int .i64 0, .int .i64 0, .int .i64 0, .slice none 0 0], 37), (ρ.f bo, #[.int .i64 a0, .int .i64 a1, .int .i64 a2, .slice (some ⟨ρ.f g0, 0, none⟩) n n], 37), (ρ.f bm, #[.slice (some ⟨ρ.f C, 0, none⟩) xss.length xss.length], 78), (ρ.f C, cells.map (ren ρ), 37), (ρ.f g0, ((List.replicate n (0 : Int)).map (Value.int .i64)).toArray, 2)] F w (fun b => (F b ∧ ¬ No b) ∨ s b) w' := by
    have lt : ∀ {b : Nat} {o : Obj}, wl.heap[b]? = some o → b < wl.heap.size := fun h => (Array.getElem?_eq_some_iff.1 h).1
    have p1 := (left_blk hL (hnew _ l1) q1).1
    have p2 := (left_blk hL (hnew _ l2) q2).1
    have p3 := (left_blk hL (hnew _ l3) q3).1
    have p4 := (left_blk hL (hnew _ l4) q4).1
    have p5 := (left_blk hL (hnew _ l5) q5).1
    have p6 := (left_blk hL (hnew _ l6) q7).1
    rw [ints_ren (fun v hv => by simp at hv; exact ⟨0, hv.2⟩)] at p6
    simp only [List.map_toArray, List.map_cons, List.map_nil, ren_slice, ren_int, ea, Option.map_some, Option.map_none, renS_lit, renA] at p1 p2 p3 p4
    have m1 := left_new hL l1 (lt q1)
    have m2 := left_new hL l2 (lt q2)
    have m3 := left_new hL l3 (lt q3)
    have m4 := left_new hL l4 (lt q4)
    have m5 := left_new hL l5 (lt q5)
    have m6 := left_new hL l6 (lt q7)
    have h0 := lk_left hF hL
    refine ⟨h0.size, fun p hp => ?_, h0.sub, h0.s0, h0.low, h0.new, h0.old, h0.tape, h0.os, h0.output⟩
    simp only [List.mem_cons, List.not_mem_nil, or_false] at hp
    rcases hp with rfl | rfl | rfl | rfl | rfl | rfl
    · exact ⟨.inr m1.1, m1.2, p1⟩
    · exact ⟨.inr m2.1, m2.2, p2⟩
    · exact ⟨.inr m3.1, m3.2, p3⟩
    · exact ⟨.inr m4.1, m4.2, p4⟩
    · exact ⟨.inr m5.1, m5.2, p5⟩
    · exact ⟨.inr m6.1, m6.2, p6⟩
  have inj : ∀ {a b : Nat}, a ≠ b → ρ.f a ≠ ρ.f b := fun h e => h (ρ.inj _ _ e)
  have hsz : (cells.map (ren ρ)).size = 4 * xss.length := by simpa using q6
  have z1 := inj n1
  have z2 := inj n2
  have z3 := inj n3
  have z4 := inj n4
  have z5 := inj n5
  have z6 := inj n6
  have z7 := inj n7
  have z8 := inj n8
  have z9 := inj n9
  have z10 := inj n10
  have z11 := inj n11
  have z12 := inj n12
  rw [ht]
  generalize (fun i => a'.tmps.getD i undef) = T
  simp only [arrCS, List.map_toArray, List.map_cons, List.map_nil, ren_pointer, ren_int, ren_bool, Option.map_some, renS_lit, renA]
  generalize cells.map (ren ρ) = cells at hK hsz
  generalize ρ.f bl = bl at hK z1 z6 z12 ⊢
  generalize ρ.f br = br at hK z2 z7 z10 z11 z12 ⊢
  generalize ρ.f bo = bo at hK z3 z8 z10 ⊢
  generalize ρ.f bm = bm at hK z4 z9 z11 ⊢
  generalize ρ.f C = C at hK z1 z2 z3 z4 z5
  generalize ρ.f g0 = g0 at hK z5 z6 z7 z8 z9
  generalize ren ρ = rr
  clear hok hL q1 q2 q3 q4 q5 q6 q7 ea inj hcut hnew n1 n2 n3 n4 n5 n6 n7 n8 n9 n10 n11 n12 l1 l2 l3 l4 l5 l6 ht hd hx
  have hF0 := hF
  clear hF
  have hF := hK
  clear hK
  generalize (fun b => (F b ∧ ¬ No b) ∨ s b) = S at hF ⊢
  have rl : ∀ {own : List (Nat × Array Value × TypeId)} {a b : World}, LK own F w S a → RS No S a b → LK own F w S b := fun h r => h.rely r
  refine gl_go (n := 40) ?_
  simp only [csCode, Try.f28, cut]
  (u_in rl hF; rw [stepG_seq]; simp only [goes_go]; refine ⟨by (refine de1_none ?_; intro e he; simp at he), ?_⟩)
  (u_in rl hF; rw [stepG_region]; simp only [goes_go, List.size_toArray, List.length_cons, List.length_nil, Nat.reduceAdd, Nat.zero_add, List.range, List.range.loop]; refine ⟨by (refine de1_none ?_; intro e he; simp at he), ?_⟩)
  g_opw rl hF [(hF.cell (b := bl) (c := #[.slice A xss.length c]) (t := 29) (by simp) 0).trans rfl] rfl (.inl ⟨_, rfl, .inl (hF.own (bl, #[.slice A xss.length c], 29) (by simp)).1, rfl⟩)
  u_in rl hF
  refine goes_oper_k rfl rfl (by k_ne) (fun K hK => ?_)
  go_simp
  refine hK _ _ ⟨?_, ?_⟩
  · refine de1_none ?_
    intro e he
    have hm := mem_listed he
    simp [go_sem, *] at hm
  clear hK K
  try w_num
  u_in rl hF
  refine goes_oper_k rfl rfl (by k_ne) (fun K hK => ?_)
  go_simp
  refine hK _ _ ⟨?_, ?_⟩
  · refine de1_none ?_
    intro e he
    have hm := mem_listed he
    simp [go_sem, *] at hm
  clear hK K
  try w_num
  u_in rl hF
  refine goes_oper_k rfl rfl (by k_ne) (fun K hK => ?_)
  go_simp
  refine hK _ _ ⟨?_, ?_⟩
  · refine de1_none ?_
    intro e he
    have hm := mem_listed he
    simp [go_sem, *] at hm
  clear hK K
  try w_num
  u_in rl hF
  refine goes_call rfl rfl (by k_ne) rfl Try.func81 nm_shared rfl ⟨by (refine de1_none ?_; intro e he; simp at he), ?_⟩
  rw [← enter_at _ Try.func81 rfl]
  refine Goes.stop fun w₁ h₁ => Go1.stop fun w₂ h₂ => ?_
  refine ⟨fun i => Array.getD #[rr (T 0), rr (T 1), rr (T 2), rr (T 3), rr (T 4), rr (T 5), rr (T 6), rr (T 7), rr (T 8), rr (T 9), rr (T 10), rr (T 11), rr (T 12), rr (T 13), rr (T 14), rr (T 15), rr (T 16), rr (T 17), rr (T 18), rr (T 19), rr (T 20), rr (T 21), rr (T 22), rr (T 23), rr (T 24), rr (T 25), rr (T 26), rr (T 27), rr (T 28), rr (T 29), rr (T 30), rr (T 31), rr (T 32), rr (T 33), rr (T 34), rr (T 35), rr (T 36), rr (T 37), rr (T 38), rr (T 39), rr (T 40), rr (T 41), rr (T 42), rr (T 43), rr (T 44), rr (T 45), rr (T 46), rr (T 47), rr (T 48), rr (T 49), rr (T 50), .slice A xss.length c, .int .i64 xss.length, .int .i64 kw, .func (.func 90) #[] #[ptr bo, ptr bl, ptr bm], rr (T 55), rr (T 56), rr (T 57), rr (T 58), rr (T 59), rr (T 60), rr (T 61), rr (T 62), rr (T 63), rr (T 64), rr (T 65), rr (T 66), rr (T 67), rr (T 68), rr (T 69), rr (T 70), rr (T 71), rr (T 72), rr (T 73), rr (T 74), rr (T 75), rr (T 76), rr (T 77), rr (T 78), rr (T 79), rr (T 80)] i undef, bl, br, bo, bm, C, g0, cells, hsz, z1, z2, z3, z4, z5, z6, z7, z8, z9, z10, z11, z12, by kernel_rfl, rl (rl hF h₁) h₂⟩
end
end Go.Proofs.Ytmmolicodlmlkaa.Ph
namespace Go.Proofs.Ytmmolicodlmlkaa.Ph
open Go.Conc Go.ConcN Go.RowKit
open Go.Proofs.Ytmmolicodlmlkaa.Rel
set_option linter.unusedVariables false
set_option linter.unusedSimpArgs false

noncomputable def csTail : Code := match Try.f28.body with | some (.seq _ (.seq _ (.seq _ (.seq _ (.seq _ c))))) => c | _ => .skip
abbrev yesCs (wd dp s g n : Nat) : Value := .tuple #[.agg #[.int .i64 wd, .int .i64 dp, .int .i64 s, .slice (some ⟨g, 0, none⟩) n n], .bool true]
theorem cs_results {arr : Array Value} {w : World} {br : Nat} {b : Bool} {v0 v1 v2 v3 : Value} (h10 : arr[10]? = some (ptrB br)) (h11 : arr[11]? = some (.bool b)) (d0 : w.cell? ⟨br, 0, none⟩ = some v0) (d1 : w.cell? ⟨br, 1, none⟩ = some v1) (d2 : w.cell? ⟨br, 2, none⟩ = some v2) (d3 : w.cell? ⟨br, 3, none⟩ = some v3) :
    (results Try.f28 arr).run Try.prog w = .ok (.tuple #[.agg #[v0, v1, v2, v3], .bool b]) w := by
  simp [results, Try.results28, go_sem, h10, h11, d0, d1, d2, d3]
set_option maxRecDepth 100000 in
set_option maxHeartbeats 8000000 in
theorem cs_ends (T : Nat → Value) (kw : Int) (wd dp s n nn C g bl br bo bm : Nat) (xss : List (List Int)) (R cc : Nat → Nat) (v0 v1 v2 v3 : Value) (w : World) (hnn : nn = xss.length) (hn16 : nn ≤ 16) (hn : n = wd * dp) (hn1 : n ≤ 384) (hd2 : dp ≤ 6) (hkeys : ∀ x ∈ xss, keysQ x = true)
    (hm : w.cell? ⟨bm, 0, none⟩ = some (.slice (some ⟨C, 0, none⟩) nn nn)) (h4 : ∀ o, o < nn → Four w C o wd dp s n (R o) (cc o) ∧ RdL (Value.int .i64) w (some ⟨R o, 0, none⟩) (madeC wd s dp xss o) ∧ R o ≠ g) (hbo : Blk w bo 37 [.int .i64 wd, .int .i64 dp, .int .i64 s, .slice (some ⟨g, 0, none⟩) n n])
    (hg : Blk w g 2 ((List.replicate n (0 : Int)).map (Value.int .i64))) (hbr : Blk w br 37 [v0, v1, v2, v3]) (n1 : C ≠ g) (n2 : bo ≠ g) (n3 : bm ≠ g) (n4 : br ≠ g) (n5 : bo ≠ br) :
    Rel.Ends Try.prog 28 csTail (fun u w' => u = yesCs wd dp s g n ∧ Blk w' g 2 ((sumC wd s dp xss nn).map (Value.int .i64))) ⟨arrCS T kw bl br bo bm, []⟩ w := by
  have H4 := hid h4
  have HBO := hid hbo
  have HBR := hid hbr
  have HN := hid hn
  have HM := hid hm
  have HK : Hid (∀ x ∈ xss, x.length ≤ 256) := fun x hx => (keysQ_iff (hkeys x hx)).1
  have HG : Hid (OwnE [] w 0 2 (some ⟨g, 0, none⟩) (sumC wd s dp xss 0)) := ⟨g, rfl, Nat.zero_le _, by
    rw [List.append_nil]
    show Blk w g 2 ((List.replicate (wd * dp) (0 : Int)).map (Value.int .i64))
    rw [← hn]; exact hg⟩
  clear h4 hbo hbr hn hg hkeys hnn
  have hgl : g < w.heap.size := by obtain ⟨x, e1, _, e3⟩ := HG.out; cases e1; exact e3.lt
  have hbrl := HBR.out.lt
  have hbol := HBO.out.lt
  simp only [csTail, Try.f28, Rel.Ends]
  go_wp2
  go_loopw [58] (fun j wr => ∃ k : Nat, k ≤ nn ∧ j = .int .i64 k ∧ Hid (OwnE [] wr 0 2 (some ⟨g, 0, none⟩) (sumC wd s dp xss k)) ∧ Hid (TouchAll w wr [(some ⟨g, 0, none⟩, n)])) (fun j _ => nn - (intOf j).toNat)
  case atStart => exact ⟨0, Nat.zero_le _, rfl, HG, touch_all_refl⟩
  case round =>
    obtain ⟨k, hkr, rfl, hok, hT⟩ := hrel
    have Q3 := hid (HBO.out.touches hT.out (by omega))
    have R3 := hid (HBR.out.touches hT.out (by omega))
    have hgr : g < wr.heap.size := by have := hT.out.size; omega
    have hsr := hT.out.size
    clear hm
    by_cases hlt : k < nn
    · have hj : (k : Int) < (nn : Int) := by omega
      obtain ⟨hf4, hrd, hRg⟩ := H4.out k hlt
      obtain ⟨c0, c1, c2, c3⟩ := hf4
      rw [Nat.mul_comm] at c0 c1 c2 c3
      have z0 := cell_touches c0 hT.out (by simp; omega)
      have z1 := cell_touches c1 hT.out (by simp; omega)
      have z2 := cell_touches c2 hT.out (by simp; omega)
      have z3 := cell_touches c3 hT.out (by simp; omega)
      have HRD := hid hrd
      have hlS := sumC_length wd s dp xss k
      have hlM := madeC_length wd s dp xss k
      rw [← HN.out] at hlS hlM
      have hbS := hid (sumC_bound (wd := wd) (s := s) (xss := xss) hd2 HK.out k)
      have hbM := hid (madeC_bound (wd := wd) (s := s) (xss := xss) (o := k) hd2 HK.out)
      have hS1 : Hid (sumC wd s dp xss (k + 1) = addL (sumC wd s dp xss k) (madeC wd s dp xss k)) := rfl
      generalize sumC wd s dp xss k = y at hok hlS hbS hS1
      generalize madeC wd s dp xss k = z at HRD hlM hbM hS1
      have HLS := hid hlS
      have HLM := hid hlM
      clear c0 c1 c2 c3 hrd hlS hlM
      go_wp2
      generalize wr = wr0 at *
      clear wr
      have O3 := hid (hok.out.below (below_a1 wr0 (.cells #[.int .i64 wd, .int .i64 dp, .int .i64 s, .slice (some ⟨R k, 0, none⟩) n (cc k)] 37)))
      have Q4 := hid (Q3.out.alloc (.cells #[.int .i64 wd, .int .i64 dp, .int .i64 s, .slice (some ⟨R k, 0, none⟩) n (cc k)] 37))
      have T3 : Hid (TouchAll w (wr0.alloc (.cells #[.int .i64 wd, .int .i64 dp, .int .i64 s, .slice (some ⟨R k, 0, none⟩) n (cc k)] 37)) [(some ⟨g, 0, none⟩, n)]) := touch_all2 hT.out (TouchAll.alloc _ _ _)
      have hRr := hRg
      clear hok hT Q3 R3 z0 z1 z2 z3
      go_loopw [65] (fun j wr => ∃ m : Nat, m ≤ n ∧ j = .int .i64 m ∧ Hid (OwnE [] wr 0 2 (some ⟨g, 0, none⟩) (fillUp m (addL y z) y)) ∧ Hid (Touch (wr0.alloc (.cells #[.int .i64 wd, .int .i64 dp, .int .i64 s, .slice (some ⟨R k, 0, none⟩) n (cc k)] 37)) wr (some ⟨g, 0, none⟩) n)) (fun j _ => n - (intOf j).toNat)
      case atStart => exact ⟨0, Nat.zero_le _, rfl, by rw [fillUp_zero]; exact O3, Touch.refl⟩
      case round =>
        obtain ⟨m, hmr, rfl, hom, hTm⟩ := hrel
        have hls := HLS.out
        have hlm := HLM.out
        by_cases hlm' : m < n
        · have him : (m : Int) < (n : Int) := by omega
          have him0 : (0 : Int) ≤ (m : Int) := by omega
          have hTA : TouchAll w wr [(some ⟨g, 0, none⟩, n)] := touch_all2 T3.out (TouchAll.of_touch hTm.out)
          obtain ⟨b3, o3, p, hA3, hcp0, hpk⟩ := HRD.out.at_ (k := m) (by omega)
          injection hA3 with hA3
          injection hA3 with hA3 hA4
          subst hA3; subst hA4
          have hcp := cell_touches hcp0 hTA (by simp; omega)
          rw [Nat.zero_add] at hcp
          clear hcp0
          have hfl' : (fillUp m (addL y z) y).length = y.length := fillUp_length (by rw [addL_length (by omega)]; omega) (by omega)
          obtain ⟨g2, u, hg', hgB', hcy, hfy, hym, hput⟩ := hom.out.put (j := m) (by omega)
          injection hg' with hg'; injection hg' with hg'
          subst hg'
          have hxu : Hid (y[m]? = some u) := by
            have := hym.out
            rw [fillUp_at (by rw [addL_length (by omega)]; omega)] at this
            exact this
          have hz : Hid ((addL y z)[m]? = some (u + p)) := zipI_at (f := fun a b => a + b) hxu hpk
          have hu := hbS.out u (List.mem_of_getElem? hxu.out)
          have hv := hbM.out p (List.mem_of_getElem? hpk.out)
          have hO2 : Hid (OwnE [] (wr.setCell ⟨g, m, none⟩ (.int .i64 (u + p))) 0 2 (some ⟨g, 0, none⟩) (fillUp (m + 1) (addL y z) y)) := by
            have h := hput (u + p)
            rw [fillUp_step hz (by omega)] at h
            exact h
          have hT2 := hid (hTm.out.set_ (by omega) m (.int .i64 (u + p)))
          have e1 : IntKind.i64.wrap (u + p) = u + p := by rw [IntKind.wrap_i64]; omega
          obtain ⟨q0, q1, q2, q3⟩ := (Q4.out.touch hTm.out (by omega)).cells4
          clear hput hgB' hym hls hlm hu hv q0 q1 q2 hfl' hTA
          go_wp2
          exact ⟨⟨m + 1, by omega, by go_num, hO2, hT2⟩, by simp [intOf]; omega⟩
        · have him : ¬ (m : Int) < (n : Int) := by omega
          have he := hom.out
          rw [show m = n by omega, fillUp_all (by rw [addL_length (by omega)]; exact hls) hls, ← hS1.out] at he
          have O4 := hid he
          have T4 := hid (touch_all2 T3.out (TouchAll.of_touch hTm.out))
          clear he hls hlm
          go_wp2
          exact ⟨⟨k + 1, by omega, by go_num, O4, T4⟩, by simp [intOf]; omega⟩
    · have hj : ¬ (k : Int) < (nn : Int) := by omega
      obtain rfl : k = nn := by omega
      obtain ⟨q0, q1, q2, q3⟩ := Q3.out.cells4
      obtain ⟨d0, d1, d2, d3⟩ := R3.out.cells4
      have f0 := R3.out.frozen 0
      have f1 := R3.out.frozen 1
      have f2 := R3.out.frozen 2
      have f3 := R3.out.frozen 3
      have n5' := Ne.symm n5
      go_wp2
      have hB0 : Blk ((((wr.setCell ⟨br, 0, none⟩ (.int .i64 wd)).setCell ⟨br, 1, none⟩ (.int .i64 dp)).setCell ⟨br, 2, none⟩ (.int .i64 s)).setCell ⟨br, 3, none⟩ (.slice (some ⟨g, 0, none⟩) n n)) br 37 [.int .i64 wd, .int .i64 dp, .int .i64 s, .slice (some ⟨g, 0, none⟩) n n] :=
        (((R3.out.set_ 0 (.int .i64 wd)).set_ 1 (.int .i64 dp)).set_ 2 (.int .i64 s)).set_ 3 (.slice (some ⟨g, 0, none⟩) n n)
      obtain ⟨r0, r1, r2, r3⟩ := hB0.cells4
      refine ⟨yesCs wd dp s g n, cs_results (b := true) rfl rfl r0 r1 r2 r3, rfl, ?_⟩
      obtain ⟨g2, e1, _, e3⟩ := hok.out
      injection e1 with e1
      injection e1 with e1
      subst e1
      rw [List.append_nil] at e3
      exact (((e3.far (Ne.symm n4) _).far (Ne.symm n4) _).far (Ne.symm n4) _).far (Ne.symm n4) _
end Go.Proofs.Ytmmolicodlmlkaa.Ph
namespace Go.Proofs.Ytmmolicodlmlkaa.Ph
open Go.Conc Go.ConcN Go.RowKit Go.Conc.Lib Go.ConcR.Gen Go.ConcN.Gen
open Go.ConcR (KK wgBlock WgAt stA smA rd wr mk DC0 Payload)
open Go.Proofs.Ytmmolicodlmlkaa.Rel
set_option linter.unusedVariables false
set_option linter.unusedSimpArgs false

set_option maxRecDepth 100000 in
theorem abs_arrCS (Fs : Fns) (B : Nat) (T : Nat → Value) (kw : Int) (bl br bo bm : Nat) (h1 : okV Fs B (ptrB bl) = true) (h2 : okV Fs B (ptrB br) = true) (h3 : okV Fs B (ptrB bo) = true) (h4 : okV Fs B (ptrB bm) = true) :
    absA Fs B ⟨arrCS T kw bl br bo bm, []⟩ = ⟨arrCS (fun i => absV Fs B (T i)) kw bl br bo bm, []⟩ := by
  unfold absA arrCS
  simp only [List.map_toArray, List.map_cons, List.map_nil]
  rw [absV_same _ h1, absV_same _ h2, absV_same _ h3, absV_same _ h4, absV_same (.int .i64 kw) (by simp), absV_same (.bool false) (by simp)]
theorem cp_put (T : Nat → Value) (kw : Int) (bl br bo bm : Nat) : Act.put ⟨arrCS T kw bl br bo bm, []⟩ ((cp5[4]?).bind (·.dst)) (.tuple #[]) = ⟨arrCS (fun i => if i = 55 then .tuple #[] else T i) kw bl br bo bm, []⟩ := by kernel_rfl
theorem cpTail_eq : cpTail = csTail := rfl
def ctFs : FuncId → Bool := fun _ => false
theorem ctFs_ok : ∀ f, ctFs f = true → ∃ fn, Try.prog.funcs[f]? = some fn ∧ fnOk Try.prog ctFs fn = true := fun f h => by cases h
theorem cpTail_ok : codeOk Try.prog ⟨ctFs, fun _ => false, fun _ => false, fun _ => false⟩ cpTail = true := by kernel_rfl
theorem cells_stay {w w₁ : World} {C wd dp s n : Nat} {xss : List (List Int)} {D S S' : Nat → Prop} (h : CellsIn C wd dp s n xss D S w) (hS : ∀ b, S b → w₁.heap[b]? = w.heap[b]?) (hC : w₁.heap[C]? = w.heap[C]?) (hSS : ∀ b, S b → S' b) : CellsIn C wd dp s n xss D S' w₁ :=
  h.stay (mine := fun _ => True) hS (.of_block hC) (fun _ _ _ _ => trivial) hSS
theorem cells_join {C wd dp s n k nn : Nat} {xss : List (List Int)} {Sg : Nat → Nat → Prop} {S : Nat → Prop} {w : World} (hk : 1 ≤ k) (h : ∀ j, j < k → CellsIn C wd dp s n xss (fun o => o < nn ∧ o % k = j) (Sg j) w) (hd : ∀ i j b, i < k → j < k → Sg i b → Sg j b → i = j) (hS : ∀ i b, i < k → Sg i b → S b) :
    CellsIn C wd dp s n xss (fun o => o < nn) S w := by
  have hm : ∀ o : Nat, o % k < k := fun o => Nat.mod_lt o (by omega)
  refine ⟨fun o => Classical.choose (h (o % k) (hm o)) o, fun o => Classical.choose (Classical.choose_spec (h (o % k) (hm o))) o, fun o ho => ?_, fun o o' ho ho' hb => ?_⟩
  · obtain ⟨q1, q2, q3, q4⟩ := (Classical.choose_spec (Classical.choose_spec (h (o % k) (hm o)))).1 o ⟨ho, rfl⟩
    exact ⟨q1, q2, hS _ _ (hm o) q3, q4⟩
  · have p1 := ((Classical.choose_spec (Classical.choose_spec (h (o % k) (hm o)))).1 o ⟨ho, rfl⟩).2.2.1
    have p2 := ((Classical.choose_spec (Classical.choose_spec (h (o' % k) (hm o')))).1 o' ⟨ho', rfl⟩).2.2.1
    simp only at hb
    have e := hd _ _ _ (hm o) (hm o') p1 (hb ▸ p2)
    have key : ∀ j (hj : j < k), j = o % k → o' % k = j → Classical.choose (h (o' % k) (hm o')) o' = Classical.choose (h j hj) o' := by
      intro j hj _ e2
      subst e2
      rfl
    have hb2 := hb.trans (key _ (hm o) rfl e.symm)
    exact (Classical.choose_spec (Classical.choose_spec (h (o % k) (hm o)))).2 o o' ⟨ho, rfl⟩ ⟨ho', e.symm⟩ hb2
section
variable {F : Nat → Prop} {w : World} {wd dp s n g C bl br bo bm : Nat} {xss : List (List Int)} {kw : Int} {cs : List Frame} {b₀ : Frame} {a₀ : Act} {ops₀ : Array Oper} {i₀ : Nat} {rest₀ : List Nat} {k₀ : List Item} {T : Nat → Value} {cells : Array Value} {v0 v1 v2 v3 : Int} {Sc : Nat → Prop} {te : TypeId}
set_option maxRecDepth 100000 in
/-- From behind sharedWork to the return. -/
theorem cp_last (hF : ∀ b, F b → b < w.heap.size) (hG : Try.prog.globals.size ≤ w.heap.size) (hn16 : xss.length ≤ 16) (hn : n = wd * dp) (hn1 : n ≤ 384) (hd2 : dp ≤ 6) (hkeys : ∀ x ∈ xss, keysQ x = true)
    (fm : F bm) (qm : w.heap[bm]? = some (.cells #[.slice (some ⟨C, 0, none⟩) xss.length xss.length] 78 (0, 0))) (fC : F C) (qC : w.heap[C]? = some (.cells cells te (0, 0))) (hR : CellsIn C wd dp s n xss (fun o => o < xss.length) Sc w) (hSc : ∀ b, Sc b → F b ∧ b ≠ g ∧ b ≠ br ∧ b ≠ bo)
    (fo : F bo) (qo : w.heap[bo]? = some (.cells #[.int .i64 wd, .int .i64 dp, .int .i64 s, .slice (some ⟨g, 0, none⟩) n n] 37 (0, 0))) (fg : F g) (qg : Blk w g 2 ((List.replicate n (0 : Int)).map (Value.int .i64)))
    (fr : F br) (qr : w.heap[br]? = some (.cells #[.int .i64 v0, .int .i64 v1, .int .i64 v2, .slice none 0 0] 37 (0, 0))) (fl : F bl) (ql : plainO w.heap[bl]? = true)
    (n1 : C ≠ g) (n2 : bo ≠ g) (n3 : bm ≠ g) (n4 : br ≠ g) (n5 : bo ≠ br) (n6 : bm ≠ br) (n7 : bm ≠ bo) (n8 : C ≠ br) (n9 : C ≠ bo) :
    GL Try.prog (fun t gg w' => gg = G (b₀.at (a₀.put ((ops₀[i₀]?).bind (·.dst)) (yesCs wd dp s g n)) (.inRegion ops₀ rest₀ :: k₀)) cs ∧ (∀ y, F y → t y) ∧ (∀ y, t y → y < w'.heap.size) ∧ w.heap.size ≤ w'.heap.size ∧ (∀ y, F y → ¬ (y = g ∨ y = br ∨ y = bo) → w'.heap[y]? = w.heap[y]?) ∧ TW w w' ∧
      w'.heap[g]? = some (.cells ((sumC wd s dp xss xss.length).map (Value.int .i64)).toArray 2 (0, 0))) F
      (G ((base 28).at (Act.put ⟨arrCS T kw bl br bo bm, []⟩ ((cp5[4]?).bind (·.dst)) (.tuple #[])) [.inRegion cp5 [], .code cpTail]) (b₀.at a₀ (.inRegion ops₀ (i₀ :: rest₀) :: k₀) :: cs)) w := by
  rw [cp_put]
  generalize (fun i => if i = 55 then Value.tuple #[] else T i) = T'
  let W : Nat → Prop := fun y => y = g ∨ y = br ∨ y = bo
  have hsub : ∀ y, W y → F y := fun y hy => by rcases hy with rfl | rfl | rfl <;> assumption
  have okB : ∀ y, F y → plainO w.heap[y]? = true → okV (fnsQ ctFs w F W) w.heap.size (ptrB y) = true := fun y h1 h2 => by
    rw [okV_pointer]; exact fnsQ_ok hF h1 h2
  have pm : plainO w.heap[bm]? = true := by rw [qm]; rfl
  have pC : plainO w.heap[C]? = true := by rw [qC]; rfl
  have po : plainO w.heap[bo]? = true := by rw [qo]; rfl
  have pg : plainO w.heap[g]? = true := by rw [show w.heap[g]? = _ from qg]; rfl
  have pr : plainO w.heap[br]? = true := by rw [qr]; rfl
  have okg : okV (fnsQ ctFs w F W) w.heap.size (.slice (some ⟨g, 0, none⟩) n n) = true := by rw [okV_slice]; exact fnsQ_ok hF fg pg
  obtain ⟨R, cc, hR1, hR2⟩ := hR
  have hl : ∀ τ, Rel.Ends Try.prog 28 cpTail (fun u w' => u = yesCs wd dp s g n ∧ Blk w' g 2 ((sumC wd s dp xss xss.length).map (Value.int .i64))) (absA (fnsQ ctFs w F W) w.heap.size ⟨arrCS T' kw bl br bo bm, []⟩) { loneW (fnsQ ctFs w F W) w with tape := τ, drawn := 0 } := by
    intro τ
    rw [abs_arrCS _ _ _ _ _ _ _ _ (okB _ fl ql) (okB _ fr pr) (okB _ fo po) (okB _ fm pm), cpTail_eq]
    refine cs_ends _ kw wd dp s n xss.length C g bl br bo bm xss R cc (.int .i64 v0) (.int .i64 v1) (.int .i64 v2) (.slice none 0 0) _ rfl hn16 hn hn1 hd2 hkeys ?_ (fun o ho => ?_) ?_ ?_ ?_ n1 n2 n3 n4 n5
    · refine loneW_at (a := ⟨bm, 0, none⟩) (by simp [World.cell?, qm]) rfl (fnsQ_old (hF _ fm) fm pm) (fnsQ_rd (hF _ fm) (by rintro (h | h | h); exact n3 h; exact n6 h; exact n7 h)) ?_
      rw [okV_slice]; exact fnsQ_ok hF fC pC
    · obtain ⟨⟨z0, z1, z2, z3⟩, q2, q3, q4⟩ := hR1 o ho
      obtain ⟨e1, e2, e3, e4⟩ := hSc _ q3
      have hwC : (fnsQ ctFs w F W).wr C = false := fnsQ_rd (hF _ fC) (by rintro (h | h | h); exact n1 h; exact n8 h; exact n9 h)
      have hwR : (fnsQ ctFs w F W).wr (R o) = false := fnsQ_rd (hF _ e1) (by rintro (h | h | h); exact e2 h; exact e3 h; exact e4 h)
      have at_ : ∀ p u, w.cell? ⟨C, p, none⟩ = some u → okV (fnsQ ctFs w F W) w.heap.size u = true → (loneW (fnsQ ctFs w F W) w).cell? ⟨C, p, none⟩ = some u := fun p u h1 h2 => loneW_at (a := ⟨C, p, none⟩) h1 rfl (fnsQ_old (hF _ fC) fC pC) hwC h2
      exact ⟨⟨at_ _ _ z0 (by simp), at_ _ _ z1 (by simp), at_ _ _ z2 (by simp), at_ _ _ z3 (by rw [okV_slice]; exact fnsQ_ok hF e1 q4.plain)⟩,
        rdl_look q2.rd (fun _ => by simp) fun b o' _ e => by injection e with e; injection e with e; subst e; exact ⟨rfl, fnsQ_old (hF _ e1) e1 q4.plain, hwR⟩, e2⟩
    · exact loneW_own qo rfl (fnsQ_old (hF _ fo) fo po) (fnsQ_wr (hF _ fo) (.inr (.inr rfl))) (fun z hz => by
        simp at hz
        rcases hz with rfl | rfl | rfl | rfl
        · simp
        · simp
        · simp
        · exact okg)
    · exact loneW_own qg rfl (fnsQ_old (hF _ fg) fg pg) (fnsQ_wr (hF _ fg) (.inl rfl)) (fun z hz => by simp at hz; rw [hz.2]; simp)
    · exact loneW_own qr rfl (fnsQ_old (hF _ fr) fr pr) (fnsQ_wr (hF _ fr) (.inr (.inl rfl))) (fun z hz => by
        simp at hz
        rcases hz with rfl | rfl | rfl | rfl <;> simp)
  have h1 := gl_back (b₀ := b₀) (a₀ := a₀) (ops₀ := ops₀) (i₀ := i₀) (rest₀ := rest₀) (k₀ := k₀) (cs := cs) hsub (gl_endM (P := Try.prog) (fs := ctFs) (v := w) (F := F) (W := W) (f := 28) (c := cpTail) (ops := cp5) (rest := []) hsub hF zero_ok hG ctFs_ok Try.func28 cp_results cpTail_ok rfl rfl fun τ => endsM_of (hl τ))
  refine Go1.widen h1 ?_
  rintro t gg w' ⟨s', rfl, ρ, u, wl, rfl, ⟨rfl, hB⟩, hok, hL⟩
  obtain ⟨p1, p2, p3, p4⟩ := left_state hsub hF hL
  have hid := hL.id g (hF _ fg)
  refine ⟨?_, p1, p2, p3, fun y hy hn => p4 y hy hn, ⟨hL.tape, hL.os, hL.output⟩, ?_⟩
  · simp [yesCs, hid]
  · have := (left_blk hL (fnsQ_old (hF _ fg) fg pg) hB).1
    rw [hid] at this
    rw [this]
    congr 2
    exact ints_ren (fun v hv => by simp at hv; obtain ⟨i, _, rfl⟩ := hv; exact ⟨i, rfl⟩)
end
/-- What impl.CellsShared returns. -/
def CellsRes (Shun' : Loc → Prop) (w0 w' : World) (a0 a1 a2 : Int) (xss : List (List Int)) (kw : Int) (v : Value) : Prop :=
  (gateCS a0 a1 a2 xss kw = false ∧ v = noCs) ∨
  (gateCS a0 a1 a2 xss kw = true ∧ ∃ g wd dp s : Nat, a0 = wd ∧ a1 = dp ∧ a2 = s ∧ v = yesCs wd dp s g (wd * dp) ∧ w0.heap.size ≤ g ∧ FreeB Shun' w' g ∧ w'.heap[g]? = some (.cells ((sumC wd s dp xss xss.length).map (Value.int .i64)).toArray 2 (0, 0)))
section
variable {Shun : Loc → Prop} {w : World} {m : Machine} {t : Trace} {a0 a1 a2 : Int} {A : Option Addr} {c : Nat} {xss : List (List Int)} {kw : Int} {cs : List Frame} {b₀ : Frame} {a₀ : Act} {ops₀ : Array Oper} {i₀ : Nat} {rest₀ : List Nat} {k₀ : List Item}
/-- ████ impl.CellsShared, CALLED AND COME BACK. ████ -/
theorem cells_machine (h : At Try.prog Shun (G (Frame.enter Try.prog 28 #[.int .i64 a0, .int .i64 a1, .int .i64 a2, .slice A xss.length c, .int .i64 kw] .normal) (b₀.at a₀ (.inRegion ops₀ (i₀ :: rest₀) :: k₀) :: cs)) w m t)
    (hG : Try.prog.globals.size ≤ w.heap.size) (h0 : W64 a0) (h1 : W64 a1) (h2 : W64 a2) (hx : SSr (FreeB Shun w) w A xss) :
    ∃ K m' t' w' Shun' v, runNT Try.prog K m t = (.next m', t') ∧ At Try.prog Shun' (G (b₀.at (a₀.put ((ops₀[i₀]?).bind (·.dst)) v) (.inRegion ops₀ rest₀ :: k₀)) cs) w' m' t' ∧ Grow Shun w Shun' w' ∧ CellsRes Shun' w w' a0 a1 a2 xss kw v := by
  cases hg : gateCS a0 a1 a2 xss kw with
  | false =>
    obtain ⟨K, m', t', g', w', S', r1, hAt, ⟨rfl, hK⟩, hfree, _⟩ := h.walk (fun S g w d ⟨e, hF⟩ => ⟨e, hF.at⟩) (cp_no (fun b hb => hb.1) hG h0 h1 h2 hx hg)
    exact ⟨K, m', t', w', Shun, _, r1, hAt, hK.grow hfree, .inl ⟨hg, rfl⟩⟩
  | true =>
    have hg0 := hg
    simp only [gateCS, Bool.and_eq_true, decide_eq_true_eq] at hg0
    obtain ⟨⟨⟨⟨g1, g2⟩, g3⟩, g4⟩, g5⟩ := hg0
    obtain ⟨e0, e1, e2⟩ := sidesB_iff g1
    have f0 : 2 ≤ a0 ∧ a0 ≤ 64 := by simpa [Go.Proofs.Ytmmolicodlmlkaa.inB] using e0
    have f1 : 1 ≤ a1 ∧ a1 ≤ 6 := by simpa [Go.Proofs.Ytmmolicodlmlkaa.inB] using e1
    have f2 : 0 ≤ a2 ∧ a2 ≤ 4294967295 := by simpa [Go.Proofs.Ytmmolicodlmlkaa.inB] using e2
    have f4 : 1 ≤ kw ∧ kw ≤ 8 := by simpa [Go.Proofs.Ytmmolicodlmlkaa.inB] using g4
    obtain ⟨wd, rfl⟩ := Int.eq_ofNat_of_zero_le (show 0 ≤ a0 by omega)
    obtain ⟨dp, rfl⟩ := Int.eq_ofNat_of_zero_le (show 0 ≤ a1 by omega)
    obtain ⟨s, rfl⟩ := Int.eq_ofNat_of_zero_le (show 0 ≤ a2 by omega)
    obtain ⟨k, rfl⟩ := Int.eq_ofNat_of_zero_le (show 0 ≤ kw by omega)
    have hkeys : ∀ x ∈ xss, keysQ x = true := fun x hx => List.all_eq_true.1 g5 x hx
    have hn1 : wd * dp ≤ 384 := by
      calc wd * dp ≤ 64 * 6 := Nat.mul_le_mul (by omega) (by omega)
        _ = 384 := rfl
    obtain ⟨K1, m1, t1, gg, w1, S1, r1, hAt1, ⟨T, bl, br, bo, bm, C, g0, cells, hsz, z1, z2, z3, z4, z5, z6, z7, z8, z9, z10, z11, z12, rfl, hK⟩, hfree, _⟩ :=
      h.walk (fun S g w d ⟨T, bl, br, bo, bm, C, g0, cells, q1, q2, q3, q4, q5, q6, q7, q8, q9, q10, q11, q12, q13, q14, q15⟩ => ⟨T, bl, br, bo, bm, C, g0, cells, q1, q2, q3, q4, q5, q6, q7, q8, q9, q10, q11, q12, q13, q14, q15.at⟩) (cp_gl (n := wd * dp) (fun b hb => hb.1) hG h0 h1 h2 hx hg (by simp))
    obtain ⟨ol1, ol2, ol3⟩ := hK.own (bl, #[.slice A xss.length c], 29) (by simp)
    obtain ⟨or1, or2, or3⟩ := hK.own (br, #[.int .i64 0, .int .i64 0, .int .i64 0, .slice none 0 0], 37) (by simp)
    obtain ⟨oo1, oo2, oo3⟩ := hK.own (bo, #[.int .i64 wd, .int .i64 dp, .int .i64 s, .slice (some ⟨g0, 0, none⟩) (wd * dp) (wd * dp)], 37) (by simp)
    obtain ⟨om1, om2, om3⟩ := hK.own (bm, #[.slice (some ⟨C, 0, none⟩) xss.length xss.length], 78) (by simp)
    obtain ⟨oc1, oc2, oc3⟩ := hK.own (C, cells, 37) (by simp)
    obtain ⟨og1, og2, og3⟩ := hK.own (g0, ((List.replicate (wd * dp) (0 : Int)).map (Value.int .i64)).toArray, 2) (by simp)
    simp only at ol1 ol2 ol3 or1 or2 or3 oo1 oo2 oo3 om1 om2 om3 oc1 oc2 oc3 og1 og2 og3
    have hgrow1 := hK.grow hfree
    have neC : ∀ y, FreeB Shun w y → y ≠ C := fun y hy e => by have := hy.1; omega
    have nmo : bm ≠ bo := fun e => by rw [e, oo3] at om3; simp at om3
    have hx1 : SSr (fun b => FreeB Shun w1 b ∧ b ≠ C) w1 A xss := hx.stay fun y hy => ⟨⟨(hgrow1.old y hy).1, neC y hy⟩, (hgrow1.old y hy).2⟩
    have I : CellIn Shun w1 wd dp s (wd * dp) g0 A c xss C bo bl bm :=
      { glob := Nat.le_trans hG hK.size, w1 := by omega, w2 := by omega, d1 := by omega, d2 := by omega, s32 := by omega, hn := rfl, l16 := by omega, keys := hkeys, lists := hx1,
        hg := ⟨hfree _ og1, z5, og3⟩, ho := ⟨hfree _ oo1, z3, _, oo3⟩, hl := ⟨hfree _ ol1, z1, _, ol3⟩, hm := ⟨hfree _ om1, z4, _, om3⟩, hC := ⟨_, _, oc3, hsz⟩ }
    have hs1 := hAt1.shun
    obtain ⟨K2, m2, t2, w2, Wg, Sg, r2, hAt2, hWg, hU, hsz2, hfact, hSg, hdis⟩ := shared_machine hAt1 (hfree _ oc1) (mine := fun j e => e / 4 % k = j) (J := fun j i S w => JC Shun C w1 wd dp s (wd * dp) xss k j i S w) (Fact := fun j S w => FactC w1.heap.size C wd dp s (wd * dp) xss k j S w) (fun i k o h1 h2 => h1.symm.trans h2) (fun i S w' hF => hF.1)
      (fun Wg b1 b2 b3 hWg => cs_task I ⟨by omega, by omega⟩ hWg b1 b2 b3)
    have free2 : ∀ b, b < w2.heap.size → b ≠ Wg → (b < w1.heap.size → FreeB Shun w1 b) → FreeB (fun l => Shun l ∨ ShN Wg l) w2 b := fun b h1 h2 h3 => free_low hs1 h1 h2 h3
    have free12 : ∀ y, FreeB Shun w1 y → FreeB (fun l => Shun l ∨ ShN Wg l) w2 y := fun y hy => free2 y (by have := hy.1; omega) (by have := hy.1; omega) fun _ => hy
    obtain ⟨cells', hC1, hC2, _⟩ := hU.2.2 _ _ _ oc3
    have hR2 : CellsIn C wd dp s (wd * dp) xss (fun o => o < xss.length) (fun b => w1.heap.size ≤ b ∧ FreeB (fun l => Shun l ∨ ShN Wg l) w2 b) w2 :=
      cells_join (k := k) (by omega) (fun j hj => (hfact j hj).2) hdis fun i b hi hb => by
        obtain ⟨q1, q2, q3, q4⟩ := hSg i b hi hb
        exact ⟨q1, free2 b q2 q3 fun h => by omega⟩
    have lt1 := (hfree _ og1).1
    have lt2 := (hfree _ or1).1
    have lt3 := (hfree _ oo1).1
    obtain ⟨K3, m3, t3, gg, w3, S3, r3, hAt3, ⟨rfl, y1, y2, y3, y4, y5, y6⟩, hfree3, _⟩ := hAt2.walk (fun S g w d h => h) (cp_last (wd := wd) (dp := dp) (s := s) (n := wd * dp) (g := g0) (C := C) (bl := bl) (br := br) (bo := bo) (bm := bm) (xss := xss) (F := FreeB (fun l => Shun l ∨ ShN Wg l) w2) (T := T) (kw := k)
      (Sc := fun b => w1.heap.size ≤ b ∧ FreeB (fun l => Shun l ∨ ShN Wg l) w2 b) (fun b hb => hb.1) (by have := hK.size; omega) (by omega) rfl hn1 (by omega) hkeys (free12 _ (hfree _ om1)) ((hU.2.1 bm (hfree _ om1) z4).trans om3) (free12 _ (hfree _ oc1)) hC1 hR2
      (fun b hb => ⟨hb.2, by have := hb.1; omega, by have := hb.1; omega, by have := hb.1; omega⟩) (free12 _ (hfree _ oo1)) ((hU.2.1 bo (hfree _ oo1) z3).trans oo3) (free12 _ (hfree _ og1)) ((hU.2.1 g0 (hfree _ og1) z5).trans og3) (free12 _ (hfree _ or1)) ((hU.2.1 br (hfree _ or1) z2).trans or3)
      (free12 _ (hfree _ ol1)) (by rw [(hU.2.1 bl (hfree _ ol1) z1), ol3]; rfl) (Ne.symm z5) z8 z9 z7 z10 z11 nmo (Ne.symm z2) (Ne.symm z3))
    have hgrow : Grow Shun w (fun l => Shun l ∨ ShN Wg l) w3 := by
      refine ⟨y5.1.trans (hU.1.1.trans hK.tape), y5.2.1.trans (hU.1.2.1.trans hK.os), y5.2.2.trans (hU.1.2.2.trans hK.output), by have := hK.size; omega, fun y hy => ?_⟩
      have h1 := hgrow1.old y hy
      have hyw := hy.1
      have hne : ¬ (y = g0 ∨ y = br ∨ y = bo) := by
        rintro (h | h | h) <;> omega
      exact ⟨hfree3 _ (y1 y (free12 y h1.1)), (y4 y (free12 y h1.1) hne).trans ((hU.2.1 y h1.1 (neC y hy)).trans h1.2)⟩
    exact ⟨K1 + (K2 + K3), m3, t3, w3, _, _, run_trans r1 (run_trans r2 r3), hAt3, hgrow, .inr ⟨hg, g0, wd, dp, s, rfl, rfl, rfl, rfl, og2, hfree3 _ (y1 _ (free12 _ (hfree _ og1))), y6⟩⟩
end
end Go.Proofs.Ytmmolicodlmlkaa.Ph
namespace Go.Proofs.Ytmmolicodlmlkaa
open Go.RowKit
open Go.Proofs.Ytmmolicodlmlkaa.Rel (Ints)
set_option linter.unusedVariables false
set_option linter.unusedSimpArgs false

theorem retCs_no {w : World} {a0 a1 a2 : Int} {y : List Int} : ∀ (e : Ending) (w' : World), (e = .returned (.tuple #[.agg #[.int .i64 0, .int .i64 0, .int .i64 0, .slice none 0 0], .bool false]) ∧ Below w.heap.size w w') → RetCs w false a0 a1 a2 y e w' := fun e w' h => ⟨h.2, .inl ⟨rfl, h.1⟩⟩
set_option maxRecDepth 100000 in
set_option maxHeartbeats 8000000 in
theorem sCellsShared_any (a0 a1 a2 : Int) (A : Option Addr) (c : Nat) (xss : List (List Int)) (kw : Int) (w : World) (hx : RdLL w A xss) :
    Calls Try.prog 26 #[.int .i64 a0, .int .i64 a1, .int .i64 a2, .slice A xss.length c, .int .i64 kw] w (RetCs w (gateCS a0 a1 a2 xss kw) a0 a1 a2 (seqC a0.toNat a2.toNat a1.toNat xss xss.length)) := by
  have HX := hid hx
  clear hx
  cases h1 : sidesB a0 a1 a2 with
  | false =>
    rw [show gateCS a0 a1 a2 xss kw = false by simp [gateCS, h1]]
    refine Calls.mono ?_ retCs_no
    go_enter Try.func26, Try.ntmps26
    go_wp2_with (go_at_call 85; refine (l03Sides_any _ _ _ _).mono ?_; rw [h1]; rintro e w' ⟨rfl, rfl⟩)
    refine bodyPost_ret (v := .tuple #[.agg #[.int .i64 0, .int .i64 0, .int .i64 0, .slice none 0 0], .bool false]) (by simp [results, Try.results26, go_sem]) rfl ⟨rfl, below_a1 _ _⟩
  | true =>
  by_cases h2 : (xss.length : Int) < 1
  · rw [show gateCS a0 a1 a2 xss kw = false by simp only [gateCS, h1, Bool.true_and]; rw [decide_eq_false (show ¬ 1 ≤ xss.length by omega)]; simp]
    refine Calls.mono ?_ retCs_no
    go_enter Try.func26, Try.ntmps26
    go_wp2_with (go_at_call 85; refine (l03Sides_any _ _ _ _).mono ?_; rw [h1]; rintro e w' ⟨rfl, rfl⟩)
    refine bodyPost_ret (v := .tuple #[.agg #[.int .i64 0, .int .i64 0, .int .i64 0, .slice none 0 0], .bool false]) (by simp [results, Try.results26, go_sem]) rfl ⟨rfl, below_a1 _ _⟩
  by_cases h3 : (xss.length : Int) > 16
  · rw [show gateCS a0 a1 a2 xss kw = false by simp only [gateCS, h1, Bool.true_and]; rw [decide_eq_false (show ¬ xss.length ≤ 16 by omega)]; simp]
    refine Calls.mono ?_ retCs_no
    go_enter Try.func26, Try.ntmps26
    go_wp2_with (go_at_call 85; refine (l03Sides_any _ _ _ _).mono ?_; rw [h1]; rintro e w' ⟨rfl, rfl⟩)
    refine bodyPost_ret (v := .tuple #[.agg #[.int .i64 0, .int .i64 0, .int .i64 0, .slice none 0 0], .bool false]) (by simp [results, Try.results26, go_sem]) rfl ⟨rfl, below_a1 _ _⟩
  cases h4 : inB kw 1 8 with
  | false =>
    rw [show gateCS a0 a1 a2 xss kw = false by simp [gateCS, h4]]
    refine Calls.mono ?_ retCs_no
    go_enter Try.func26, Try.ntmps26
    go_wp2_with (first | (go_at_call 85; refine (l03Sides_any _ _ _ _).mono ?_; rw [h1]; rintro e w' ⟨rfl, rfl⟩) | (go_at_call 78; refine (l00In_any _ _ _ _).mono ?_; rw [h4]; rintro e w' ⟨rfl, rfl⟩))
    refine bodyPost_ret (v := .tuple #[.agg #[.int .i64 0, .int .i64 0, .int .i64 0, .slice none 0 0], .bool false]) (by simp [results, Try.results26, go_sem]) rfl ⟨rfl, below_a1 _ _⟩
  | true =>
  have hg : gateCS a0 a1 a2 xss kw = xss.all keysQ := by simp only [gateCS, h1, h4, Bool.true_and, Bool.and_true]; rw [decide_eq_true (show 1 ≤ xss.length by omega), decide_eq_true (show xss.length ≤ 16 by omega)]; simp
  rw [hg]
  clear hg
  obtain ⟨e0, e1, e2⟩ := sidesB_iff h1
  obtain ⟨hm0, hm1⟩ := mul_sides e0 e1
  have b0 := inB_iff.1 e0
  have b1 := inB_iff.1 e1
  have b2 := inB_iff.1 e2
  obtain ⟨wd, rfl⟩ := Int.eq_ofNat_of_zero_le (show 0 ≤ a0 by omega)
  obtain ⟨dp, rfl⟩ := Int.eq_ofNat_of_zero_le (show 0 ≤ a1 by omega)
  obtain ⟨s, rfl⟩ := Int.eq_ofNat_of_zero_le (show 0 ≤ a2 by omega)
  simp only [Int.toNat_natCast]
  have hn : ((wd * dp : Nat) : Int) = (wd : Int) * (dp : Int) := by simp
  have HN := hid hn
  have hw1 : 2 ≤ wd := by omega
  have hw2 : wd ≤ 64 := by omega
  have hd1 : 1 ≤ dp := by omega
  have hd2 : dp ≤ 6 := by omega
  have hs : s < 4294967296 := by omega
  obtain ⟨n, hnn⟩ : ∃ n, n = wd * dp := ⟨_, rfl⟩
  have HNN := hid hnn
  rw [← hnn] at hn
  have hn1 : n ≤ 384 := by omega
  have hn0 : 0 < n := by omega
  clear hn hm0 hm1 e0 e1 e2 b0 b1 b2 hnn
  go_enter Try.func26, Try.ntmps26
  go_wp2_with (first | (go_at_call 85; refine (l03Sides_any _ _ _ _).mono ?_; rw [h1]; rintro e w' ⟨rfl, rfl⟩) | (go_at_call 78; refine (l00In_any _ _ _ _).mono ?_; rw [h4]; rintro e w' ⟨rfl, rfl⟩))
  clear h1 h4
  refine (l03New_ex (wd : Int) (dp : Int) (s : Int) n _ (by rw [HNN.out]; exact HN.out) hn1).mono ?_
  rintro e w1 ⟨g, c1, rfl, ho, hb⟩
  have R1 := hid ((Blk.new w 37 [.int .i64 0, .int .i64 0, .int .i64 0, .slice none 0 0]).below hb)
  have S1 := below_call (below_a1 _ _) hb
  have hsz : w.heap.size + 1 ≤ w1.heap.size := by have := hb.size; simpa using this
  have O1 := hid (ho.mono (B' := w.heap.size + 1) (by simp))
  have hgl : g < w1.heap.size := by obtain ⟨g', e1, _, e3⟩ := ho; cases e1; exact e3.lt
  have hgB : w.heap.size + 1 ≤ g := by obtain ⟨g', e1, e2, e3⟩ := ho; cases e1; simpa using e2
  clear ho hb
  go_wp2
  have Q2 := hid (Blk.new w1 37 [.int .i64 wd, .int .i64 dp, .int .i64 s, .slice (some ⟨g, 0, none⟩) n c1])
  have O2 := hid (O1.out.below (below_a1 w1 (.cells #[.int .i64 wd, .int .i64 dp, .int .i64 s, .slice (some ⟨g, 0, none⟩) n c1] 37)))
  have R2 := hid (R1.out.alloc (.cells #[.int .i64 wd, .int .i64 dp, .int .i64 s, .slice (some ⟨g, 0, none⟩) n c1] 37))
  have S2 : Hid (Below w.heap.size w (w1.alloc (.cells #[.int .i64 wd, .int .i64 dp, .int .i64 s, .slice (some ⟨g, 0, none⟩) n c1] 37))) := S1.out.alloc (S1.out.size) _
  clear R1 O1 S1
  have hw2s : (w1.alloc (.cells #[.int .i64 wd, .int .i64 dp, .int .i64 s, .slice (some ⟨g, 0, none⟩) n c1] 37)).heap.size = w1.heap.size + 1 := by simp
  generalize hw2e : w1.alloc (.cells #[.int .i64 wd, .int .i64 dp, .int .i64 s, .slice (some ⟨g, 0, none⟩) n c1] 37) = w2 at Q2 O2 R2 S2 hw2s ⊢
  clear hw2e
  go_loopw [42] (fun i wr => ∃ k : Nat, k ≤ xss.length ∧ i = .int .i64 k ∧ Hid ((xss.take k).all keysQ = true) ∧ Hid (OwnE [] wr (w.heap.size + 1) 2 (some ⟨g, 0, none⟩) (seqC wd s dp xss k)) ∧ Hid (TouchAll w2 wr [(some ⟨g, 0, none⟩, n)])) (fun i _ => xss.length - (intOf i).toNat)
  case atStart => exact ⟨0, Nat.zero_le _, rfl, rfl, by rw [show seqC wd s dp xss 0 = List.replicate n 0 by rw [HNN.out]; rfl]; exact O2, touch_all_refl⟩
  case round =>
    obtain ⟨k, hkr, rfl, hall, hok, hT⟩ := hrel
    have SR : Hid (Below w.heap.size w wr) := ⟨hT.out.os.trans S2.out.os, hT.out.tape.trans S2.out.tape, hT.out.output.trans S2.out.output, by have := hT.out.size; omega, fun b hb' => (hT.out.block b (by omega) (by intro p hp; simp at hp; subst hp; right; intro o e; injection e with e; injection e with e; omega)).trans (S2.out.block b hb')⟩
    have R3 := hid (R2.out.touches hT.out (by omega))
    have Q3 := hid (Q2.out.touches hT.out (by omega))
    obtain ⟨d0, d1, d2, d3⟩ := R3.out.cells4
    have f0 := R3.out.frozen 0
    have f1 := R3.out.frozen 1
    have f2 := R3.out.frozen 2
    have f3 := R3.out.frozen 3
    by_cases hlt : k < xss.length
    · have hi : (k : Int) < (xss.length : Int) := by omega
      obtain ⟨C, o1, R, cc, rfl, hcC, hrd⟩ := HX.out k hlt
      have hCk := cell_grown hcC SR.out
      have HRD := hid (hrd.below SR.out)
      have HKE : Hid (xss[k]? = some xss[k]) := by show _ = _; rw [List.getElem?_eq_getElem hlt]
      have HKD : Hid (xss.getD k [] = xss[k]) := by show _ = _; rw [List.getD_eq_getElem?_getD, HKE.out]; rfl
      have hCl : C < w.heap.size := World.block_lt_of_cell? w _ hcC
      have HRB : Hid (∀ a, R = some a → 0 < xss[k].length → a.block < w.heap.size) := by
        intro a ha h0
        obtain ⟨b, o, hA, hc⟩ := hrd 0 h0
        have := World.block_lt_of_cell? w _ hc
        rw [ha] at hA; injection hA with hA; subst hA; exact this
      clear hcC hrd
      generalize hL : xss[k] = L at hCk HRD HKE HKD HRB
      clear hL
      cases h5 : keysQ L with
      | false =>
        have HF : Hid (xss.all keysQ = false) := by
          show _ = _
          rw [List.all_eq_false]
          exact ⟨L, List.mem_of_getElem? HKE.out, by rw [h5]; simp⟩
        go_wp2_with (go_at_call 72; refine (l02Keys_q R cc L _ HRD.out).mono ?_; rw [h5]; rintro e w' ⟨rfl, rfl⟩)
        refine bodyPost_ret (v := .tuple #[.agg #[.int .i64 0, .int .i64 0, .int .i64 0, .slice none 0 0], .bool false]) (by simp [results, Try.results26, go_sem, d0, d1, d2, d3]) rfl ?_
        refine ⟨?_, .inl ⟨HF.out, rfl⟩⟩
        exact (((SR.out.setCell (by simp) _).setCell (by simp) _).setCell (by simp) _).setCell (by simp) _
      | true =>
        have HA := hid (all_take hall.out HKE.out h5)
        have hkq := keysQ_iff h5
        have hkl := hkq.1
        have HKB := hid hkq.2
        clear hkq
        have hsl : Hid (seqC wd s dp xss (k + 1) = putKs wd s dp (seqC wd s dp xss k) L) := by show _ = _; rw [seqC_succ hlt, HKD.out]
        have hbk : Hid (∀ z ∈ seqC wd s dp xss k, -24576 ≤ z ∧ z ≤ 24576) := by
          intro z hz
          have h256 : ∀ x ∈ xss.take k, x.length ≤ 256 := fun x hx => (keysQ_iff (List.all_eq_true.1 hall.out x hx)).1
          have e : seqC wd s dp (xss.take k) k = seqC wd s dp xss k := by unfold seqC; rw [List.take_take, Nat.min_self]
          have := seqC_bound (wd := wd) (s := s) (dp := dp) (n := k) (xss := xss.take k) hd2 h256 (by simp; omega) z (by rw [e]; exact hz)
          omega
        have hyl : Hid ((seqC wd s dp xss k).length = n) := by show _ = _; rw [seqC_length, HNN.out]
        generalize seqC wd s dp xss k = y at hok hbk hyl hsl
        go_wp2_with (go_at_call 72; refine (l02Keys_q R cc L _ HRD.out).mono ?_; rw [h5]; rintro e w' ⟨rfl, rfl⟩)
        clear h5 d0 d1 d2 d3 f0 f1 f2 f3 R3 Q3
        have hCk0 := hid hCk
        have hok0 := hok
        have hT0 := hT
        clear hok hT hCk
        generalize wr = wr0 at *
        clear wr
        go_loopw [57] (fun i wr => ∃ j : Nat, j ≤ L.length ∧ i = .int .i64 j ∧ Hid (OwnE [] wr (w.heap.size + 1) 2 (some ⟨g, 0, none⟩) (putKs wd s dp y (L.take j))) ∧ Hid (TouchAll wr0 wr [(some ⟨g, 0, none⟩, n)])) (fun i _ => L.length - (intOf i).toNat)
        case atStart => exact ⟨0, Nat.zero_le _, rfl, by rw [List.take_zero]; exact hok0, touch_all_refl⟩
        case round =>
          obtain ⟨j, hjr, rfl, hok, hT⟩ := hrel
          have hCk : wr.cell? ⟨C, o1 + k, none⟩ = some (.slice R L.length cc) := cell_touches hCk0.out hT.out (by simp; omega)
          by_cases hjl : j < L.length
          · have hj : (j : Int) < (L.length : Int) := by omega
            obtain ⟨b, o, v, rfl, hcv0, hvk⟩ := HRD.out.at_ hjl
            have hbl : b < w.heap.size := HRB.out _ rfl (by omega)
            have hcv := cell_touches hcv0 hT.out (by simp; omega)
            have hvb := HKB.out v (List.mem_of_getElem? hvk.out)
            obtain ⟨vn, rfl⟩ := Int.eq_ofNat_of_zero_le hvb.1
            have hvl : vn < 4294967296 := by omega
            have hTA := hid (touch_all2 hT0.out hT.out)
            have Q4 := hid (Q2.out.touches hTA.out (by omega))
            have hyl2 : Hid ((putKs wd s dp y (L.take j)).length = n) := by show _ = _; rw [putKs_length]; exact hyl.out
            have hyb2 : Hid (∀ z ∈ putKs wd s dp y (L.take j), -1000000000000 ≤ z ∧ z ≤ 1000000000000) := by
              intro z hz
              have := putKs_bound (ks := L.take j) hd2 hbk.out z hz
              have h9 : (L.take j).length ≤ 256 := by rw [List.length_take]; omega
              omega
            have hsn : Hid (addAt 1 (putKs wd s dp y (L.take j)) (cellsL wd s vn dp) = putKs wd s dp y (L.take (j + 1))) := by
              show _ = _
              rw [List.take_add_one, hvk.out, Option.toList_some, putKs_snoc, Int.toNat_natCast]
            generalize putKs wd s dp y (L.take j) = y2 at hok hyl2 hyb2 hsn
            clear hcv0 hvb hvk
            go_wp2_with (go_at_call 87; refine (l03Put_ex [] w1.heap.size c1 g wd dp s vn 1 (w.heap.size + 1) y2 _ (by rw [hyl2.out]; exact Q4.out) hok.out (by omega) hw1 hw2 hd2 hvl hs (by rw [hyl2.out]; exact HNN.out) hyb2.out (by omega)).mono ?_; rintro e w' ⟨rfl, ho3, ht3⟩)
            rw [hsn.out] at ho3
            rw [hyl2.out] at ht3
            have O3 := hid ho3
            have T3 := hid (touch_all2 hT.out ht3)
            clear ho3 ht3
            go_wp2
            exact ⟨⟨j + 1, by omega, by go_num, O3, T3⟩, by simp [intOf]; omega⟩
          · have hj : ¬ (j : Int) < (L.length : Int) := by omega
            obtain rfl : j = L.length := by omega
            have O3 : Hid (OwnE [] wr (w.heap.size + 1) 2 (some ⟨g, 0, none⟩) (seqC wd s dp xss (k + 1))) := by
              have := hok.out
              rw [List.take_length] at this
              rw [hsl.out]; exact this
            have T3 := hid (touch_all2 hT0.out hT.out)
            go_wp2
            exact ⟨⟨k + 1, by omega, by go_num, HA, O3, T3⟩, by simp [intOf]; omega⟩
    · have hi : ¬ (k : Int) < (xss.length : Int) := by omega
      obtain rfl : k = xss.length := by omega
      have HG : Hid (xss.all keysQ = true) := by have := hall.out; rwa [List.take_length] at this
      obtain ⟨q0, q1, q2, q3⟩ := Q3.out.cells4
      have hSL : Hid ((seqC wd s dp xss xss.length).length = n) := by show _ = _; rw [seqC_length, HNN.out]
      have hn1' : w.heap.size ≠ w1.heap.size := by omega
      go_wp2
      refine bodyPost_ret (v := .tuple #[.agg #[.int .i64 wd, .int .i64 dp, .int .i64 s, .slice (some ⟨g, 0, none⟩) n c1], .bool true]) (by simp [results, Try.results26, go_sem, d0, d1, d2, d3]) rfl ⟨?_, .inr ⟨HG.out, _, c1, by rw [hSL.out], ?_⟩⟩
      · exact (((SR.out.setCell (by simp) _).setCell (by simp) _).setCell (by simp) _).setCell (by simp) _
      · exact ((((hok.out.setFar (by simp) _).setFar (by simp) _).setFar (by simp) _).setFar (by simp) _).mono (by omega)
end Go.Proofs.Ytmmolicodlmlkaa
namespace Go.Proofs.Ytmmolicodlmlkaa.Ph
open Go.Conc Go.ConcN Go.RowKit
open Go.Proofs.Ytmmolicodlmlkaa.Rel
set_option linter.unusedVariables false
set_option linter.unusedSimpArgs false

/-! ### cells that the program has made, called by a law -/
abbrev cellV (d0 d1 d2 : Int) (A : Option Addr) (n c : Nat) : Value := .agg #[.int .i64 d0, .int .i64 d1, .int .i64 d2, .slice A n c]
def hdOf (g : Bool) (a : Int) : Int := if g then a else 0
def cntOf (g : Bool) (a0 a1 a2 : Int) (xss : List (List Int)) : List Int := if g then sumC a0.toNat a2.toNat a1.toNat xss xss.length else []
section
variable {W₀ : World} {l : List Fc} {F S : Nat → Prop} {own : List ((Nat → Prop) × Fc)} {Shun : Loc → Prop} {w : World} {m : Machine} {t : Trace} {a0 a1 a2 : Int} {A : Option Addr} {c : Nat} {xss : List (List Int)} {kw : Int} {cs : List Frame} {b₀ : Frame} {a₀ : Act} {ops₀ : Array Oper} {i₀ : Nat} {rest₀ : List Nat} {k₀ : List Item}
theorem ssr_sub {F F' : Nat → Prop} (h : SSr F w A xss) (hs : ∀ y, F y → F' y) : SSr F' w A xss := h.stay fun y hy => ⟨hs y hy, rfl⟩
/-- ████ impl.CellsShared, CALLED BY A LAW. ████ -/
theorem cells_at (h : At Try.prog Shun (G (Frame.enter Try.prog 28 #[.int .i64 a0, .int .i64 a1, .int .i64 a2, .slice A xss.length c, .int .i64 kw] .normal) (b₀.at a₀ (.inRegion ops₀ (i₀ :: rest₀) :: k₀) :: cs)) w m t) (hH : LH W₀ l F own S w) (hS : ∀ y, S y → FreeB Shun w y)
    (h0 : W64 a0) (h1 : W64 a1) (h2 : W64 a2) (hx : SSr S w A xss) :
    ∃ K m' t' w' Shun' Ag cg G', runNT Try.prog K m t = (.next m', t') ∧ At Try.prog Shun' (G (b₀.at (a₀.put ((ops₀[i₀]?).bind (·.dst)) (.tuple #[cellV (hdOf (gateCS a0 a1 a2 xss kw) a0) (hdOf (gateCS a0 a1 a2 xss kw) a1) (hdOf (gateCS a0 a1 a2 xss kw) a2) Ag (cntOf (gateCS a0 a1 a2 xss kw) a0 a1 a2 xss).length cg, .bool (gateCS a0 a1 a2 xss kw)])) (.inRegion ops₀ rest₀ :: k₀)) cs) w' m' t' ∧
      LH W₀ l F ((G', .own Ag (cntOf (gateCS a0 a1 a2 xss kw) a0 a1 a2 xss)) :: own) (FreeB Shun' w') w' := by
  obtain ⟨K, m', t', w', Shun', v, hr, hAt, hg, hR⟩ := cells_machine h hH.glob h0 h1 h2 (ssr_sub hx hS)
  have hH1 := (hH.wide hS fun y hy => hy.1).grow hg
  rcases hR with ⟨e, rfl⟩ | ⟨e, g, wd, dp, s, rfl, rfl, rfl, rfl, q1, q2, q3⟩
  · refine ⟨K, m', t', w', Shun', none, 0, fun _ => False, hr, ?_, ?_⟩
    · rw [e]; exact hAt
    · rw [e]
      exact hH1.addOwn ⟨fun hne => absurd rfl hne, fun a ha => by cases ha⟩ (fun y hy => hy.elim) (fun y _ hy => hy) fun q hq y _ hy => hy
  · have hlen : (sumC wd s dp xss xss.length).length = wd * dp := sumC_length _ _ _ _ _
    refine ⟨K, m', t', w', Shun', some ⟨g, 0, none⟩, wd * dp, fun y => y = g, hr, ?_, ?_⟩
    · rw [e]
      simp only [hdOf, cntOf, if_true, Int.toNat_natCast, hlen]
      exact hAt
    · rw [e]
      simp only [cntOf, if_true, Int.toNat_natCast]
      refine hH1.addOwn ⟨fun _ => ⟨g, [], rfl, Nat.zero_le _, by rw [List.append_nil]; exact q3⟩, fun a ha => ?_⟩ (fun y hy => by subst hy; exact q2) (fun y hy hn => ?_) fun q hq y hy hn => ?_
      · obtain rfl := Option.some.inj ha
        exact ⟨rfl, ⟨_, _, q3, fun v hv => by simp at hv; obtain ⟨i, _, rfl⟩ := hv; exact ⟨i, rfl⟩⟩, rfl⟩
      · subst hn
        have := hH.low y (hH.sub y hy)
        omega
      · subst hn
        have := hH.low y ((hH.ow q hq).2.1 y hy)
        omega
end
end Go.Proofs.Ytmmolicodlmlkaa.Ph
namespace Go.Proofs.Ytmmolicodlmlkaa.Ph
open Go.Conc Go.ConcN Go.RowKit Go.Conc.Lib Go.ConcR.Gen Go.ConcN.Gen
open Go.ConcR (KK wgBlock WgAt stA smA rd wr mk DC0 Payload)
open Go.Proofs.Ytmmolicodlmlkaa.Rel
set_option linter.unusedVariables false
set_option linter.unusedSimpArgs false

def tsFs : FuncId → Bool := fun f => [13, 27].contains f
theorem tsFs_0 : fnOk Try.prog tsFs Try.f13 = true := by kernel_rfl
theorem tsFs_1 : fnOk Try.prog tsFs Try.f27 = true := by kernel_rfl
theorem tsFs_ok : ∀ f, tsFs f = true → ∃ fn, Try.prog.funcs[f]? = some fn ∧ fnOk Try.prog tsFs fn = true := by
  intro f hf
  simp [tsFs] at hf
  rcases hf with rfl | rfl
  · exact ⟨_, Try.func13, tsFs_0⟩
  · exact ⟨_, Try.func27, tsFs_1⟩
def scFs : FuncId → Bool := fun f => [26, 72, 73, 78, 85, 86, 87, 120, 128, 136, 154].contains f
theorem scFs_0 : fnOk Try.prog scFs Try.f26 = true := by kernel_rfl
theorem scFs_1 : fnOk Try.prog scFs Try.f72 = true := by kernel_rfl
theorem scFs_2 : fnOk Try.prog scFs Try.f73 = true := by kernel_rfl
theorem scFs_3 : fnOk Try.prog scFs Try.f78 = true := by kernel_rfl
theorem scFs_4 : fnOk Try.prog scFs Try.f85 = true := by kernel_rfl
theorem scFs_5 : fnOk Try.prog scFs Try.f86 = true := by kernel_rfl
theorem scFs_6 : fnOk Try.prog scFs Try.f87 = true := by kernel_rfl
theorem scFs_7 : fnOk Try.prog scFs Try.f120 = true := by kernel_rfl
theorem scFs_8 : fnOk Try.prog scFs Try.f128 = true := by kernel_rfl
theorem scFs_9 : fnOk Try.prog scFs Try.f136 = true := by kernel_rfl
theorem scFs_10 : fnOk Try.prog scFs Try.f154 = true := by kernel_rfl
theorem scFs_ok : ∀ f, scFs f = true → ∃ fn, Try.prog.funcs[f]? = some fn ∧ fnOk Try.prog scFs fn = true := by
  intro f hf
  simp [scFs] at hf
  rcases hf with rfl | rfl | rfl | rfl | rfl | rfl | rfl | rfl | rfl | rfl | rfl
  · exact ⟨_, Try.func26, scFs_0⟩
  · exact ⟨_, Try.func72, scFs_1⟩
  · exact ⟨_, Try.func73, scFs_2⟩
  · exact ⟨_, Try.func78, scFs_3⟩
  · exact ⟨_, Try.func85, scFs_4⟩
  · exact ⟨_, Try.func86, scFs_5⟩
  · exact ⟨_, Try.func87, scFs_6⟩
  · exact ⟨_, Try.func120, scFs_7⟩
  · exact ⟨_, Try.func128, scFs_8⟩
  · exact ⟨_, Try.func136, scFs_9⟩
  · exact ⟨_, Try.func154, scFs_10⟩
theorem seq_is {a0 a1 a2 : Int} {xss : List (List Int)} {kw : Int} (h : gateCS a0 a1 a2 xss kw = true) : seqC a0.toNat a2.toNat a1.toNat xss xss.length = cntOf (gateCS a0 a1 a2 xss kw) a0 a1 a2 xss := by
  rw [h]
  exact (sumC_seqC (Nat.le_refl _)).symm
theorem hd_one {a0 : Int} {g : Bool} (h : g = true) : hdOf g a0 = a0 := by rw [h]; rfl
section
variable {W₀ : World} {l : List Fc} {F S : Nat → Prop} {own : List ((Nat → Prop) × Fc)} {w : World} {a0 a1 a2 : Int} {A : Option Addr} {c : Nat} {xss : List (List Int)} {kw : Int} {cs : List Frame} {b₀ : Frame} {a₀ : Act} {ops₀ : Array Oper} {i₀ : Nat} {rest₀ : List Nat} {k₀ : List Item}
/-- spec.CellsShared, beside leavers. -/
theorem sCells_gl (h : LH W₀ l F own S w) (hx : SSr S w A xss) :
    GL Try.prog (fun t g w' => ∃ Aw cw F', g = G (b₀.at (a₀.put ((ops₀[i₀]?).bind (·.dst)) (.tuple #[cellV (hdOf (gateCS a0 a1 a2 xss kw) a0) (hdOf (gateCS a0 a1 a2 xss kw) a1) (hdOf (gateCS a0 a1 a2 xss kw) a2) Aw (cntOf (gateCS a0 a1 a2 xss kw) a0 a1 a2 xss).length cw, .bool (gateCS a0 a1 a2 xss kw)])) (.inRegion ops₀ rest₀ :: k₀)) cs ∧
      LH W₀ (.arg Aw (cntOf (gateCS a0 a1 a2 xss kw) a0 a1 a2 xss) :: l) F' own t w') S
      (G (Frame.enter Try.prog 26 #[.int .i64 a0, .int .i64 a1, .int .i64 a2, .slice A xss.length c, .int .i64 kw] .normal) (b₀.at a₀ (.inRegion ops₀ (i₀ :: rest₀) :: k₀) :: cs)) w := by
  have hg := gl_back (b₀ := b₀) (a₀ := a₀) (ops₀ := ops₀) (i₀ := i₀) (rest₀ := rest₀) (k₀ := k₀) (cs := cs) (fun b h => h.elim) (gl_call (P := Try.prog) (fs := scFs) (v := w) (F := S) (W := No) (f := 26) (args := #[.int .i64 a0, .int .i64 a1, .int .i64 a2, .slice A xss.length c, .int .i64 kw])
    (Q := fun u w' => (gateCS a0 a1 a2 xss kw = false ∧ u = .tuple #[.agg #[.int .i64 0, .int .i64 0, .int .i64 0, .slice none 0 0], .bool false]) ∨
      (gateCS a0 a1 a2 xss kw = true ∧ ∃ g c, u = .tuple #[.agg #[.int .i64 a0, .int .i64 a1, .int .i64 a2, .slice (some ⟨g, 0, none⟩) (cntOf (gateCS a0 a1 a2 xss kw) a0 a1 a2 xss).length c], .bool true] ∧ w.heap.size ≤ g ∧ Blk w' g 2 ((cntOf (gateCS a0 a1 a2 xss kw) a0 a1 a2 xss).map (Value.int .i64)))) (fun b h => h.elim) h.low zero_ok h.glob scFs_ok rfl (by
      intro z hz
      simp at hz
      rcases hz with rfl | rfl | rfl | rfl | rfl
      · simp
      · simp
      · simp
      · exact okV_ss h.lf hx
      · simp) fun τ => (sCellsShared_any a0 a1 a2 A c xss kw { loneW (fnsQ scFs w S No) w with tape := τ, drawn := 0 } (lone_ss h.lf hx)).mono fun e w' he => by
        have hsz : ({ loneW (fnsQ scFs w S No) w with tape := τ, drawn := 0 } : World).heap.size = w.heap.size := loneW_size
        rcases he.2 with ⟨e1, rfl⟩ | ⟨e1, Ag, c', rfl, g, e2, e3, e4⟩
        · exact .inl ⟨e1, rfl⟩
        · obtain rfl := Option.some.inj e2
          rw [seq_is e1] at e4 ⊢
          rw [List.append_nil] at e4
          rw [hsz] at e3
          exact .inr ⟨e1, g, c', rfl, e3, e4⟩)
  refine Go1.widen hg ?_
  rintro t g w' ⟨s, rfl, ρ, u, wl, rfl, hR, hok, hL⟩
  have hK := lk_left h.low hL
  have hH := h.lk hK
  rcases hR with ⟨e1, rfl⟩ | ⟨e1, g, c', rfl, q1, q2⟩
  · rw [e1]
    exact ⟨none, 0, F, by simp [hdOf, cntOf], ⟨hH.tw, hH.old, hH.low, hH.glob, fun f hf => by
      rcases List.mem_cons.1 hf with rfl | hf
      · exact ⟨fun i hi => by simp [cntOf] at hi, fun a ha => (by cases ha)⟩
      · exact hH.fc f hf, hH.sub, hH.ow, hH.dis⟩⟩
  · have hlt : g < wl.heap.size := q2.lt
    have p1 := (left_blk hL (fnsQ_new q1).1 q2).1
    rw [ints_ren (fun v hv => by simp at hv; obtain ⟨i, _, rfl⟩ := hv; exact ⟨i, rfl⟩)] at p1
    have m1 := left_new hL q1 hlt
    have hO : OwnS (Value.int .i64) w' 0 2 (some ⟨ρ.f g, 0, none⟩) (cntOf (gateCS a0 a1 a2 xss kw) a0 a1 a2 xss) := fun _ => ⟨ρ.f g, [], rfl, Nat.zero_le _, by rw [List.append_nil]; exact p1⟩
    refine ⟨some ⟨ρ.f g, 0, none⟩, c', fun y => F y ∨ (w.heap.size ≤ y ∧ s y), ?_, hH.addBase (f := .arg (some ⟨ρ.f g, 0, none⟩) (cntOf (gateCS a0 a1 a2 xss kw) a0 a1 a2 xss)) (N := fun y => w.heap.size ≤ y ∧ s y) ⟨hO.rd, fun a ha => ?_⟩ (fun y hy => .inr hy.2) fun q hq y hy hn => ?_⟩
    · rw [hd_one e1, hd_one e1, hd_one e1]
      simp [e1]
    · obtain rfl := Option.some.inj ha
      exact ⟨⟨m1.2, m1.1⟩, by simp only; rw [p1]; rfl, rfl⟩
    · have := h.low y ((h.ow q hq).2.1 y hy)
      omega
/-- toInt64SS, beside leavers. -/
theorem toSS_gl (h : LH W₀ l F own S w) (hx : SSr S w A xss) (hn : xss.length ≤ 1048576) (hl : ∀ e ∈ xss, e.length ≤ 1048576) :
    GL Try.prog (fun t g w' => ∃ C G', g = G (b₀.at (a₀.put ((ops₀[i₀]?).bind (·.dst)) (.slice (some ⟨C, 0, none⟩) xss.length xss.length)) (.inRegion ops₀ rest₀ :: k₀)) cs ∧ LH W₀ l F ((G', .sso (some ⟨C, 0, none⟩) xss) :: own) t w') S
      (G (Frame.enter Try.prog 27 #[.slice A xss.length c] .normal) (b₀.at a₀ (.inRegion ops₀ (i₀ :: rest₀) :: k₀) :: cs)) w := by
  have hg := gl_back (b₀ := b₀) (a₀ := a₀) (ops₀ := ops₀) (i₀ := i₀) (rest₀ := rest₀) (k₀ := k₀) (cs := cs) (fun b h => h.elim) (gl_call (P := Try.prog) (fs := tsFs) (v := w) (F := S) (W := No) (f := 27) (args := #[.slice A xss.length c])
    (Q := fun u w' => ∃ C R, u = .slice (some ⟨C, 0, none⟩) xss.length xss.length ∧ w.heap.size ≤ C ∧ ToLL C xss xss.length R w') (fun b h => h.elim) h.low zero_ok h.glob tsFs_ok rfl (by
      intro z hz
      simp at hz
      subst hz
      exact okV_ss h.lf hx) fun τ => (toInt64SS_any A c xss { loneW (fnsQ tsFs w S No) w with tape := τ, drawn := 0 } (lone_ss h.lf hx) hn hl).mono fun e w' he => by
        have hsz : ({ loneW (fnsQ tsFs w S No) w with tape := τ, drawn := 0 } : World).heap.size = w.heap.size := loneW_size
        obtain ⟨C, R, rfl, e2, e3, _⟩ := he
        rw [hsz] at e2
        exact ⟨C, R, rfl, e2, e3⟩)
  refine Go1.widen hg ?_
  rintro t g w' ⟨s, rfl, ρ, u, wl, rfl, ⟨C, R, rfl, q1, hT⟩, hok, hL⟩
  have hH := h.lk (lk_left h.low hL)
  have hr1 : ∀ o, o < xss.length → w.heap.size ≤ R o := fun o ho => Nat.le_trans q1 (Nat.le_of_lt (hT.row o ho).1)
  have pC := (left_blk hL (fnsQ_new q1).1 hT.out).1
  have mC := left_new hL q1 hT.out.lt
  have pR : ∀ o, o < xss.length → w'.heap[ρ.f (R o)]? = some (.cells ((xss.getD o []).map (Value.int .i64)).toArray 2 (0, 0)) := fun o ho => by
    have := (left_blk hL (fnsQ_new (hr1 o ho)).1 (hT.row o ho).2).1
    rw [ints_ren (fun v hv => by simp at hv; obtain ⟨i, _, rfl⟩ := hv; exact ⟨i, rfl⟩)] at this
    exact this
  have mR : ∀ o, o < xss.length → s (ρ.f (R o)) ∧ w.heap.size ≤ ρ.f (R o) := fun o ho => left_new hL (hr1 o ho) (hT.row o ho).2.lt
  have hcell : ∀ o, o < xss.length → w'.cell? ⟨ρ.f C, o, none⟩ = some (.slice (some ⟨ρ.f (R o), 0, none⟩) (xss.getD o []).length (xss.getD o []).length) := fun o ho => by
    unfold World.cell?
    simp only [pC]
    rw [Array.getElem?_map, List.getElem?_toArray, List.getElem?_append_left (by simp; exact ho)]
    simp [ho]
  have hgd : ∀ o (ho : o < xss.length), xss.getD o [] = xss[o] := fun o ho => by simp [List.getD, ho]
  have hB : ∀ o, o < xss.length → ArgB (fun y => w.heap.size ≤ y ∧ s y) w' (some ⟨ρ.f (R o), 0, none⟩) := fun o ho a ha => by
    obtain rfl := Option.some.inj ha
    exact ⟨⟨(mR o ho).2, (mR o ho).1⟩, ⟨_, _, pR o ho, fun v hv => by simp at hv; obtain ⟨i, _, rfl⟩ := hv; exact ⟨i, rfl⟩⟩, rfl⟩
  have hO : ∀ o (ho : o < xss.length), OwnS (Value.int .i64) w' 0 2 (some ⟨ρ.f (R o), 0, none⟩) xss[o] := fun o ho _ => ⟨ρ.f (R o), [], rfl, Nat.zero_le _, by rw [List.append_nil, ← hgd o ho]; exact pR o ho⟩
  refine ⟨ρ.f C, fun y => w.heap.size ≤ y ∧ s y, by simp, hH.addOwn (p := (fun y => w.heap.size ≤ y ∧ s y, .sso (some ⟨ρ.f C, 0, none⟩) xss)) ⟨⟨fun a ha => ?_, fun o ho => ?_⟩, fun o => some ⟨ρ.f (R o), 0, none⟩, fun o => (xss.getD o []).length, fun o ho => ?_, fun o o' a a' h1 h2 ha ha' e => ?_, fun o a d h1 ha hd e => ?_⟩ (fun y hy => .inr hy.2) (fun y hy hn => ?_) fun q hq y hy hn => ?_⟩
  · obtain rfl := Option.some.inj ha
    exact ⟨⟨mC.2, mC.1⟩, by simp only; rw [pC]; rfl, rfl⟩
  · exact ⟨ρ.f C, 0, _, _, rfl, by rw [Nat.zero_add, hcell o ho, hgd o ho], (hO o ho).rd, .inl (hB o ho).p⟩
  · exact ⟨ρ.f C, rfl, by rw [hcell o ho]; simp only [hgd o ho], hO o ho, hB o ho⟩
  · obtain rfl := Option.some.inj ha
    obtain rfl := Option.some.inj ha'
    exact hT.inj o o' h1 h2 (ρ.inj _ _ e)
  · obtain rfl := Option.some.inj ha
    obtain rfl := Option.some.inj hd
    have := ρ.inj _ _ e
    have := (hT.row o h1).1
    omega
  · have := h.low y (h.sub y hy)
    omega
  · have := h.low y ((h.ow q hq).2.1 y hy)
    omega
end
end Go.Proofs.Ytmmolicodlmlkaa.Ph
namespace Go.Proofs.Ytmmolicodlmlkaa.Ph
open Go.Conc Go.ConcN Go.RowKit
open Go.Proofs.Ytmmolicodlmlkaa.Rel
set_option linter.unusedVariables false
set_option linter.unusedSimpArgs false

abbrev arrV (T : Nat → Value) (v0 v1 v2 v3 v4 : Value) : Array Value := #[v0, v1, v2, v3, v4, T 5, T 6, T 7, T 8, T 9, T 10, T 11, T 12, T 13, T 14, T 15, T 16, T 17, T 18, T 19, T 20, T 21, T 22, T 23, T 24, T 25, T 26, T 27, T 28, T 29, T 30, T 31, T 32, T 33, T 34, T 35, T 36, T 37, T 38, T 39, T 40, T 41, T 42, T 43, T 44, T 45, T 46, T 47, T 48, T 49, T 50, T 51, T 52, T 53, T 54, T 55, T 56, T 57, T 58, T 59, T 60, T 61, T 62, T 63, T 64, T 65, T 66, T 67, T 68, T 69, T 70, T 71, T 72, T 73, T 74, T 75, T 76, T 77, T 78, T 79, T 80, T 81, T 82, T 83, T 84, T 85, T 86, T 87, T 88, T 89, T 90, T 91, T 92, T 93, T 94, T 95, T 96, T 97, T 98, T 99, T 100, T 101, T 102, T 103, T 104, T 105, T 106, T 107, T 108, T 109, T 110, T 111, T 112, T 113, T 114, T 115]
abbrev arrV1 (T : Nat → Value) (v0 v1 v2 v3 v4 v34 : Value) : Array Value := #[v0, v1, v2, v3, v4, T 5, T 6, T 7, T 8, T 9, T 10, T 11, T 12, T 13, T 14, T 15, T 16, T 17, T 18, T 19, T 20, T 21, T 22, T 23, T 24, T 25, T 26, T 27, T 28, T 29, T 30, T 31, T 32, T 33, v34, T 35, T 36, T 37, T 38, T 39, T 40, T 41, T 42, T 43, T 44, T 45, T 46, T 47, T 48, T 49, T 50, T 51, T 52, T 53, T 54, T 55, T 56, T 57, T 58, T 59, T 60, T 61, T 62, T 63, T 64, T 65, T 66, T 67, T 68, T 69, T 70, T 71, T 72, T 73, T 74, T 75, T 76, T 77, T 78, T 79, T 80, T 81, T 82, T 83, T 84, T 85, T 86, T 87, T 88, T 89, T 90, T 91, T 92, T 93, T 94, T 95, T 96, T 97, T 98, T 99, T 100, T 101, T 102, T 103, T 104, T 105, T 106, T 107, T 108, T 109, T 110, T 111, T 112, T 113, T 114, T 115]
set_option maxRecDepth 100000 in
theorem abs_arrV1 (Fs : Fns) (B : Nat) (T : Nat → Value) (v0 v1 v2 v3 v4 v34 : Value) : absA Fs B ⟨arrV1 T v0 v1 v2 v3 v4 v34, []⟩ = ⟨arrV1 (fun i => absV Fs B (T i)) (absV Fs B v0) (absV Fs B v1) (absV Fs B v2) (absV Fs B v3) (absV Fs B v4) (absV Fs B v34), []⟩ := by
  unfold absA arrV1
  simp only [List.map_toArray, List.map_cons, List.map_nil]
abbrev arrV2 (T : Nat → Value) (v0 v1 v2 v3 v4 v12 v13 : Value) : Array Value := #[v0, v1, v2, v3, v4, T 5, T 6, T 7, T 8, T 9, T 10, T 11, v12, v13, T 14, T 15, T 16, T 17, T 18, T 19, T 20, T 21, T 22, T 23, T 24, T 25, T 26, T 27, T 28, T 29, T 30, T 31, T 32, T 33, T 34, T 35, T 36, T 37, T 38, T 39, T 40, T 41, T 42, T 43, T 44, T 45, T 46, T 47, T 48, T 49, T 50, T 51, T 52, T 53, T 54, T 55, T 56, T 57, T 58, T 59, T 60, T 61, T 62, T 63, T 64, T 65, T 66, T 67, T 68, T 69, T 70, T 71, T 72, T 73, T 74, T 75, T 76, T 77, T 78, T 79, T 80, T 81, T 82, T 83, T 84, T 85, T 86, T 87, T 88, T 89, T 90, T 91, T 92, T 93, T 94, T 95, T 96, T 97, T 98, T 99, T 100, T 101, T 102, T 103, T 104, T 105, T 106, T 107, T 108, T 109, T 110, T 111, T 112, T 113, T 114, T 115]
abbrev arrV3 (T : Nat → Value) (v0 v1 v2 v3 v4 v12 v13 v14 : Value) : Array Value := #[v0, v1, v2, v3, v4, T 5, T 6, T 7, T 8, T 9, T 10, T 11, v12, v13, v14, T 15, T 16, T 17, T 18, T 19, T 20, T 21, T 22, T 23, T 24, T 25, T 26, T 27, T 28, T 29, T 30, T 31, T 32, T 33, T 34, T 35, T 36, T 37, T 38, T 39, T 40, T 41, T 42, T 43, T 44, T 45, T 46, T 47, T 48, T 49, T 50, T 51, T 52, T 53, T 54, T 55, T 56, T 57, T 58, T 59, T 60, T 61, T 62, T 63, T 64, T 65, T 66, T 67, T 68, T 69, T 70, T 71, T 72, T 73, T 74, T 75, T 76, T 77, T 78, T 79, T 80, T 81, T 82, T 83, T 84, T 85, T 86, T 87, T 88, T 89, T 90, T 91, T 92, T 93, T 94, T 95, T 96, T 97, T 98, T 99, T 100, T 101, T 102, T 103, T 104, T 105, T 106, T 107, T 108, T 109, T 110, T 111, T 112, T 113, T 114, T 115]
abbrev arrV4 (T : Nat → Value) (v0 v1 v2 v3 v4 v12 v13 v14 v45 : Value) : Array Value := #[v0, v1, v2, v3, v4, T 5, T 6, T 7, T 8, T 9, T 10, T 11, v12, v13, v14, T 15, T 16, T 17, T 18, T 19, T 20, T 21, T 22, T 23, T 24, T 25, T 26, T 27, T 28, T 29, T 30, T 31, T 32, T 33, T 34, T 35, T 36, T 37, T 38, T 39, T 40, T 41, T 42, T 43, T 44, v45, T 46, T 47, T 48, T 49, T 50, T 51, T 52, T 53, T 54, T 55, T 56, T 57, T 58, T 59, T 60, T 61, T 62, T 63, T 64, T 65, T 66, T 67, T 68, T 69, T 70, T 71, T 72, T 73, T 74, T 75, T 76, T 77, T 78, T 79, T 80, T 81, T 82, T 83, T 84, T 85, T 86, T 87, T 88, T 89, T 90, T 91, T 92, T 93, T 94, T 95, T 96, T 97, T 98, T 99, T 100, T 101, T 102, T 103, T 104, T 105, T 106, T 107, T 108, T 109, T 110, T 111, T 112, T 113, T 114, T 115]
set_option maxRecDepth 100000 in
theorem abs_arrV4 (Fs : Fns) (B : Nat) (T : Nat → Value) (v0 v1 v2 v3 v4 v12 v13 v14 v45 : Value) : absA Fs B ⟨arrV4 T v0 v1 v2 v3 v4 v12 v13 v14 v45, []⟩ = ⟨arrV4 (fun i => absV Fs B (T i)) (absV Fs B v0) (absV Fs B v1) (absV Fs B v2) (absV Fs B v3) (absV Fs B v4) (absV Fs B v12) (absV Fs B v13) (absV Fs B v14) (absV Fs B v45), []⟩ := by
  unfold absA arrV4
  simp only [List.map_toArray, List.map_cons, List.map_nil]
abbrev arrV5 (T : Nat → Value) (v0 v1 v2 v3 v4 v12 v13 v14 v15 v16 : Value) : Array Value := #[v0, v1, v2, v3, v4, T 5, T 6, T 7, T 8, T 9, T 10, T 11, v12, v13, v14, v15, v16, T 17, T 18, T 19, T 20, T 21, T 22, T 23, T 24, T 25, T 26, T 27, T 28, T 29, T 30, T 31, T 32, T 33, T 34, T 35, T 36, T 37, T 38, T 39, T 40, T 41, T 42, T 43, T 44, T 45, T 46, T 47, T 48, T 49, T 50, T 51, T 52, T 53, T 54, T 55, T 56, T 57, T 58, T 59, T 60, T 61, T 62, T 63, T 64, T 65, T 66, T 67, T 68, T 69, T 70, T 71, T 72, T 73, T 74, T 75, T 76, T 77, T 78, T 79, T 80, T 81, T 82, T 83, T 84, T 85, T 86, T 87, T 88, T 89, T 90, T 91, T 92, T 93, T 94, T 95, T 96, T 97, T 98, T 99, T 100, T 101, T 102, T 103, T 104, T 105, T 106, T 107, T 108, T 109, T 110, T 111, T 112, T 113, T 114, T 115]
set_option maxRecDepth 100000 in
theorem abs_arrV5 (Fs : Fns) (B : Nat) (T : Nat → Value) (v0 v1 v2 v3 v4 v12 v13 v14 v15 v16 : Value) : absA Fs B ⟨arrV5 T v0 v1 v2 v3 v4 v12 v13 v14 v15 v16, []⟩ = ⟨arrV5 (fun i => absV Fs B (T i)) (absV Fs B v0) (absV Fs B v1) (absV Fs B v2) (absV Fs B v3) (absV Fs B v4) (absV Fs B v12) (absV Fs B v13) (absV Fs B v14) (absV Fs B v15) (absV Fs B v16), []⟩ := by
  unfold absA arrV5
  simp only [List.map_toArray, List.map_cons, List.map_nil]
abbrev arrV6 (T : Nat → Value) (v0 v1 v2 v3 v4 v12 v13 v15 v16 v17 : Value) : Array Value := #[v0, v1, v2, v3, v4, T 5, T 6, T 7, T 8, T 9, T 10, T 11, v12, v13, T 14, v15, v16, v17, T 18, T 19, T 20, T 21, T 22, T 23, T 24, T 25, T 26, T 27, T 28, T 29, T 30, T 31, T 32, T 33, T 34, T 35, T 36, T 37, T 38, T 39, T 40, T 41, T 42, T 43, T 44, T 45, T 46, T 47, T 48, T 49, T 50, T 51, T 52, T 53, T 54, T 55, T 56, T 57, T 58, T 59, T 60, T 61, T 62, T 63, T 64, T 65, T 66, T 67, T 68, T 69, T 70, T 71, T 72, T 73, T 74, T 75, T 76, T 77, T 78, T 79, T 80, T 81, T 82, T 83, T 84, T 85, T 86, T 87, T 88, T 89, T 90, T 91, T 92, T 93, T 94, T 95, T 96, T 97, T 98, T 99, T 100, T 101, T 102, T 103, T 104, T 105, T 106, T 107, T 108, T 109, T 110, T 111, T 112, T 113, T 114, T 115]
set_option maxRecDepth 100000 in
theorem abs_arrV6 (Fs : Fns) (B : Nat) (T : Nat → Value) (v0 v1 v2 v3 v4 v12 v13 v15 v16 v17 : Value) : absA Fs B ⟨arrV6 T v0 v1 v2 v3 v4 v12 v13 v15 v16 v17, []⟩ = ⟨arrV6 (fun i => absV Fs B (T i)) (absV Fs B v0) (absV Fs B v1) (absV Fs B v2) (absV Fs B v3) (absV Fs B v4) (absV Fs B v12) (absV Fs B v13) (absV Fs B v15) (absV Fs B v16) (absV Fs B v17), []⟩ := by
  unfold absA arrV6
  simp only [List.map_toArray, List.map_cons, List.map_nil]
abbrev arrV7 (T : Nat → Value) (v0 v1 v2 v3 v4 v12 v13 v15 v18 : Value) : Array Value := #[v0, v1, v2, v3, v4, T 5, T 6, T 7, T 8, T 9, T 10, T 11, v12, v13, T 14, v15, T 16, T 17, v18, T 19, T 20, T 21, T 22, T 23, T 24, T 25, T 26, T 27, T 28, T 29, T 30, T 31, T 32, T 33, T 34, T 35, T 36, T 37, T 38, T 39, T 40, T 41, T 42, T 43, T 44, T 45, T 46, T 47, T 48, T 49, T 50, T 51, T 52, T 53, T 54, T 55, T 56, T 57, T 58, T 59, T 60, T 61, T 62, T 63, T 64, T 65, T 66, T 67, T 68, T 69, T 70, T 71, T 72, T 73, T 74, T 75, T 76, T 77, T 78, T 79, T 80, T 81, T 82, T 83, T 84, T 85, T 86, T 87, T 88, T 89, T 90, T 91, T 92, T 93, T 94, T 95, T 96, T 97, T 98, T 99, T 100, T 101, T 102, T 103, T 104, T 105, T 106, T 107, T 108, T 109, T 110, T 111, T 112, T 113, T 114, T 115]
abbrev arrV8 (T : Nat → Value) (v0 v1 v2 v3 v4 v12 v13 v15 v18 v96 : Value) : Array Value := #[v0, v1, v2, v3, v4, T 5, T 6, T 7, T 8, T 9, T 10, T 11, v12, v13, T 14, v15, T 16, T 17, v18, T 19, T 20, T 21, T 22, T 23, T 24, T 25, T 26, T 27, T 28, T 29, T 30, T 31, T 32, T 33, T 34, T 35, T 36, T 37, T 38, T 39, T 40, T 41, T 42, T 43, T 44, T 45, T 46, T 47, T 48, T 49, T 50, T 51, T 52, T 53, T 54, T 55, T 56, T 57, T 58, T 59, T 60, T 61, T 62, T 63, T 64, T 65, T 66, T 67, T 68, T 69, T 70, T 71, T 72, T 73, T 74, T 75, T 76, T 77, T 78, T 79, T 80, T 81, T 82, T 83, T 84, T 85, T 86, T 87, T 88, T 89, T 90, T 91, T 92, T 93, T 94, T 95, v96, T 97, T 98, T 99, T 100, T 101, T 102, T 103, T 104, T 105, T 106, T 107, T 108, T 109, T 110, T 111, T 112, T 113, T 114, T 115]
set_option maxRecDepth 100000 in
theorem abs_arrV8 (Fs : Fns) (B : Nat) (T : Nat → Value) (v0 v1 v2 v3 v4 v12 v13 v15 v18 v96 : Value) : absA Fs B ⟨arrV8 T v0 v1 v2 v3 v4 v12 v13 v15 v18 v96, []⟩ = ⟨arrV8 (fun i => absV Fs B (T i)) (absV Fs B v0) (absV Fs B v1) (absV Fs B v2) (absV Fs B v3) (absV Fs B v4) (absV Fs B v12) (absV Fs B v13) (absV Fs B v15) (absV Fs B v18) (absV Fs B v96), []⟩ := by
  unfold absA arrV8
  simp only [List.map_toArray, List.map_cons, List.map_nil]
noncomputable def vbody : Code := match Try.f6.body with | some c => c | _ => .skip
theorem vbody_is : Try.f6.body = some vbody := rfl
noncomputable def vc5 : Code := match Try.f6.body with | some (.seq _ (.seq _ (.seq _ (.seq _ (c))))) => c | _ => .skip
noncomputable def vy5 : Array Oper := match Try.f6.body with | some (.seq _ (.seq _ (.seq _ (.seq _ (.seq (.region _ ops _) _))))) => ops | _ => #[]
noncomputable def vc6 : Code := match Try.f6.body with | some (.seq _ (.seq _ (.seq _ (.seq _ (.seq _ (c)))))) => c | _ => .skip
noncomputable def vy7 : Array Oper := match Try.f6.body with | some (.seq _ (.seq _ (.seq _ (.seq _ (.seq _ (.seq _ (.seq (.region _ ops _) _))))))) => ops | _ => #[]
noncomputable def vc8 : Code := match Try.f6.body with | some (.seq _ (.seq _ (.seq _ (.seq _ (.seq _ (.seq _ (.seq _ (c)))))))) => c | _ => .skip
noncomputable def vc10 : Code := match Try.f6.body with | some (.seq _ (.seq _ (.seq _ (.seq _ (.seq _ (.seq _ (.seq _ (.seq _ (c))))))))) => c | _ => .skip
noncomputable def vc14 : Code := match Try.f6.body with | some (.seq _ (.seq _ (.seq _ (.seq _ (.seq _ (.seq _ (.seq _ (.seq _ (.seq _ (.seq _ (.seq _ (c)))))))))))) => c | _ => .skip
noncomputable def vc24 : Code := match Try.f6.body with | some (.seq _ (.seq _ (.seq _ (.seq _ (.seq _ (.seq _ (.seq _ (.seq _ (.seq _ (.seq _ (.seq _ (.seq _ (.seq _ (.seq _ (.seq _ (.seq _ (.seq _ (.seq _ (c))))))))))))))))))) => c | _ => .skip
noncomputable def vy24 : Array Oper := match Try.f6.body with | some (.seq _ (.seq _ (.seq _ (.seq _ (.seq _ (.seq _ (.seq _ (.seq _ (.seq _ (.seq _ (.seq _ (.seq _ (.seq _ (.seq _ (.seq _ (.seq _ (.seq _ (.seq _ (.seq (.region _ ops _) _))))))))))))))))))) => ops | _ => #[]
noncomputable def vc25 : Code := match Try.f6.body with | some (.seq _ (.seq _ (.seq _ (.seq _ (.seq _ (.seq _ (.seq _ (.seq _ (.seq _ (.seq _ (.seq _ (.seq _ (.seq _ (.seq _ (.seq _ (.seq _ (.seq _ (.seq _ (.seq _ (c)))))))))))))))))))) => c | _ => .skip
abbrev actV (a0 a1 a2 : Int) (A : Option Addr) (n c : Nat) (kw : Int) : Act := ⟨arrV uns (.int .i64 a0) (.int .i64 a1) (.int .i64 a2) (.slice A n c) (.int .i64 kw), []⟩
set_option maxRecDepth 100000 in
theorem vl_enter (a0 a1 a2 : Int) (A : Option Addr) (n c : Nat) (kw : Int) : Frame.enter Try.prog 6 #[.int .i64 a0, .int .i64 a1, .int .i64 a2, .slice A n c, .int .i64 kw] .normal = (base 6).at (actV a0 a1 a2 A n c kw) [.code vbody] := by
  rw [enter_at _ Try.func6 vbody_is]
  kernel_rfl
theorem vl_results : Try.f6.results.all resOk = true := by kernel_rfl
/-- The operations behind the first k. -/
theorem wpOps_behind {P : Program} {ops : Array Oper} {Q : Exit → Act → World → Prop} {a : Act} {w : World} (k : Nat) {rest : List Nat} (hr : rest = List.range' k (ops.toList.drop k).length) (h : wpList P ops Q (ops.toList.drop k) a w) : wpOps P ops Q rest a w := by
  rw [hr]
  refine wpOps_from k _ rfl (fun j => ?_) h
  rw [List.getElem?_drop, Array.getElem?_toList]
set_option maxRecDepth 100000 in
set_option maxHeartbeats 4000000 in
theorem vl_gate (a0 a1 a2 : Int) (A : Option Addr) (c : Nat) (xss : List (List Int)) (kw : Int) (w : World) (hx : RdLL w A xss) (hn : xss.length ≤ 9223372036854775807) (hl : ∀ e ∈ xss, e.length ≤ 9223372036854775807) (h : ¬ (xss.length : Int) + sumLL xss ≤ 1048576) :
    Rets Try.prog 6 4 vbody (fun u w' => u = .bool true) (actV a0 a1 a2 A xss.length c kw) w := by
  simp only [Rets, vbody, Try.f6, cut]
  have HX := hid hx
  clear hx
  go_wp2_with (go_at_call 25; refine (szInt64SS_any A c xss _ HX.out hn hl).mono ?_; rintro e w1 ⟨rfl, hb⟩; rw [if_neg h])
  kernel_rfl
set_option maxRecDepth 100000 in
set_option maxHeartbeats 4000000 in
theorem vl_reach (a0 a1 a2 : Int) (A : Option Addr) (c : Nat) (xss : List (List Int)) (kw : Int) (w : World) (hx : RdLL w A xss) (hn : xss.length ≤ 9223372036854775807) (hl : ∀ e ∈ xss, e.length ≤ 9223372036854775807) (h : (xss.length : Int) + sumLL xss ≤ 1048576) :
    Rel.Reach Try.prog 4 vbody (fun a' w' => a'.defers = [] ∧ a'.tmps = arrV (fun i => a'.tmps.getD i undef) (.int .i64 a0) (.int .i64 a1) (.int .i64 a2) (.slice A xss.length c) (.int .i64 kw)) (actV a0 a1 a2 A xss.length c kw) w := by
  have HX := hid hx
  clear hx
  have hp : ¬ 1048576 - (xss.length : Int) - sumLL xss < 0 := by omega
  simp only [vbody, Try.f6]
  refine reach_seq ?_
  go_wp2
  refine reach_seq ?_
  go_wp2
  refine reach_seq ?_
  go_wp2_with (go_at_call 25; refine (szInt64SS_any A c xss _ HX.out hn hl).mono ?_; rintro e w1 ⟨rfl, hb⟩; rw [if_pos h])
  refine reach_seq ?_
  go_wp2
  refine reach_here ?_
  exact ⟨rfl, by kernel_rfl⟩
set_option maxRecDepth 100000 in
set_option maxHeartbeats 4000000 in
theorem v_mid5 (T : Nat → Value) (v0 v1 v2 v3 v4 : Value) (d0 d1 d2 : Int) (Aw : Option Addr) (n cw : Nat) (g : Bool) (w : World) :
    ReachM Try.prog vy5 [7, 8, 9, 10, 11, 12] 0 vc6 (fun a' w' => a'.defers = [] ∧ ∃ b, a'.tmps = arrV2 (fun i => a'.tmps.getD i undef) v0 v1 v2 v3 v4 (ptrB b) (.bool g) ∧ w.heap.size ≤ b ∧ w'.heap[b]? = some (.cells #[.int .i64 d0, .int .i64 d1, .int .i64 d2, .slice Aw n cw] 37 (0, 0)))
      ⟨arrV1 T v0 v1 v2 v3 v4 (.tuple #[cellV d0 d1 d2 Aw n cw, .bool g]), []⟩ w := by
  refine reachM_of (wpOps_behind 7 (by kernel_rfl) ?_)
  simp only [vy5, Try.f6, List.drop_succ_cons, List.drop_zero]
  go_wp2
  refine reach_here ?_
  refine ⟨rfl, w.heap.size, by kernel_rfl, Nat.le_refl _, ?_⟩
  exact heap_alloc_new _ _
/-- The fields of cells in a box. -/
structure Bx (w : World) (b : Nat) (d0 d1 d2 : Int) (A : Option Addr) (n c : Nat) : Prop where
  c0 : w.cell? ⟨b, 0, none⟩ = some (.int .i64 d0)
  c1 : w.cell? ⟨b, 1, none⟩ = some (.int .i64 d1)
  c2 : w.cell? ⟨b, 2, none⟩ = some (.int .i64 d2)
  c3 : w.cell? ⟨b, 3, none⟩ = some (.slice A n c)
theorem Bx.grown {w w' : World} {b n c : Nat} {d0 d1 d2 : Int} {A : Option Addr} (h : Bx w b d0 d1 d2 A n c) (hb : Below w.heap.size w w') : Bx w' b d0 d1 d2 A n c := ⟨cell_grown h.c0 hb, cell_grown h.c1 hb, cell_grown h.c2 hb, cell_grown h.c3 hb⟩
theorem Bx.of {w : World} {b n c : Nat} {d0 d1 d2 : Int} {A : Option Addr} (h : w.heap[b]? = some (.cells #[.int .i64 d0, .int .i64 d1, .int .i64 d2, .slice A n c] 37 (0, 0))) : Bx w b d0 d1 d2 A n c := by
  refine ⟨?_, ?_, ?_, ?_⟩ <;> (unfold World.cell?; rw [h]; rfl)
theorem Bx.stay {w w' : World} {b n c : Nat} {d0 d1 d2 : Int} {A : Option Addr} (h : Bx w b d0 d1 d2 A n c) (hs : w'.heap[b]? = w.heap[b]?) : Bx w' b d0 d1 d2 A n c :=
  ⟨(cell_stay (a := ⟨b, 0, none⟩) hs).trans h.c0, (cell_stay (a := ⟨b, 1, none⟩) hs).trans h.c1, (cell_stay (a := ⟨b, 2, none⟩) hs).trans h.c2, (cell_stay (a := ⟨b, 3, none⟩) hs).trans h.c3⟩
set_option maxRecDepth 100000 in
set_option maxHeartbeats 4000000 in
theorem v_mid7 (T : Nat → Value) (v0 v1 v2 v3 v4 v14 : Value) (d0 d1 d2 : Int) (Aw : Option Addr) (cw : Nat) (Ag : Option Addr) (cg : Nat) (ys : List Int) (b : Nat) (g : Bool) (w : World) (hb : Bx w b d0 d1 d2 Aw ys.length cw) (hw : RdL (Value.int .i64) w Aw ys) (hg : RdL (Value.int .i64) w Ag ys) (hn : ys.length ≤ 1048576) :
    ReachM Try.prog vy7 [6, 7, 8, 9, 10, 11] 1 vc8 (fun a' w' => a'.defers = [] ∧ ∃ b', a'.tmps = arrV5 (fun i => a'.tmps.getD i undef) v0 v1 v2 v3 v4 (ptrB b) (.bool g) v14 (ptrB b') (.bool g) ∧ w.heap.size ≤ b' ∧ w'.heap[b']? = some (.cells #[.int .i64 d0, .int .i64 d1, .int .i64 d2, .slice Ag ys.length cg] 37 (0, 0)))
      ⟨arrV4 T v0 v1 v2 v3 v4 (ptrB b) (.bool g) v14 (.tuple #[cellV d0 d1 d2 Ag ys.length cg, .bool g]), []⟩ w := by
  have hn1 : Bx (w.alloc (Obj.cells #[Value.int .i64 d0, Value.int .i64 d1, Value.int .i64 d2, Value.slice Ag ys.length cg] 37)) w.heap.size d0 d1 d2 Ag ys.length cg := Bx.of (heap_alloc_new _ _)
  have hb1 := hb.grown (below_a1 w (Obj.cells #[Value.int .i64 d0, Value.int .i64 d1, Value.int .i64 d2, Value.slice Ag ys.length cg] 37))
  have HW := hid (hw.below (below_a1 w (Obj.cells #[Value.int .i64 d0, Value.int .i64 d1, Value.int .i64 d2, Value.slice Ag ys.length cg] 37)))
  have HG := hid (hg.below (below_a1 w (Obj.cells #[Value.int .i64 d0, Value.int .i64 d1, Value.int .i64 d2, Value.slice Ag ys.length cg] 37)))
  obtain ⟨b0, b1, b2, b3⟩ := hb1
  obtain ⟨n0, n1, n2, n3⟩ := hn1
  have HE := hid (fun (w' : World) (h1 : RdL (Value.int .i64) w' Ag ys) (h2 : RdL (Value.int .i64) w' Aw ys) => eqCells_yes d0 d1 d2 Ag Aw ys.length cg cw ys w' rfl h1 h2 hn)
  have HN : Hid ((w.alloc (Obj.cells #[Value.int .i64 d0, Value.int .i64 d1, Value.int .i64 d2, Value.slice Ag ys.length cg] 37)).heap[w.heap.size]? = some (.cells #[.int .i64 d0, .int .i64 d1, .int .i64 d2, .slice Ag ys.length cg] 37 (0, 0))) := heap_alloc_new _ _
  have HLT : Hid (w.heap.size < (w.alloc (Obj.cells #[Value.int .i64 d0, Value.int .i64 d1, Value.int .i64 d2, Value.slice Ag ys.length cg] 37)).heap.size) := by show _ < _; simp
  clear hb hw hg hn
  refine reachM_of (wpOps_behind 6 (by kernel_rfl) ?_)
  simp only [vy7, vc8, Try.f6, List.drop_succ_cons, List.drop_zero]
  go_wp2
  refine reach_seq ?_
  go_wp2_with (go_at_call 29; refine (HE.out _ HG.out HW.out).mono ?_; rintro e w2 ⟨rfl, hb2⟩)
  refine reach_here ?_
  refine ⟨rfl, w.heap.size, by kernel_rfl, Nat.le_refl _, ?_⟩
  exact (hb2.block _ HLT.out).trans HN.out
set_option maxRecDepth 100000 in
set_option maxHeartbeats 4000000 in
theorem v_mid14 (T : Nat → Value) (v0 v1 v2 v3 v4 : Value) (q : Int) (d0 d1 d2 : Int) (Aw : Option Addr) (cw : Nat) (Ag : Option Addr) (cg : Nat) (ys : List Int) (b b' : Nat) (g : Bool) (w : World) (hb : Bx w b d0 d1 d2 Aw ys.length cw) (hb' : Bx w b' d0 d1 d2 Ag ys.length cg) (hw : RdL (Value.int .i64) w Aw ys) (hg : OwnS (Value.int .i64) w 0 2 Ag ys) (hn : ys.length ≤ 1048576) (hq : ¬ q < 0) (hbg : ∀ a, Ag = some a → a.block ≠ b') :
    Rel.Reach Try.prog 7 vc14 (fun a' w' => a'.defers = [] ∧ a'.tmps = arrV7 (fun i => a'.tmps.getD i undef) v0 v1 v2 v3 v4 (ptrB b) (.bool g) (ptrB b') (.int .i64 (1 + (ys.length : Int))) ∧ OwnS (Value.int .i64) w' 0 2 Ag (marks markI 1 ys.length))
      ⟨arrV6 T v0 v1 v2 v3 v4 (ptrB b) (.bool g) (ptrB b') (.bool g) (.int .i64 q), []⟩ w := by
  have HB := hid hb
  have HB' := hid hb'
  have HW := hid hw
  have HG := hid hg
  obtain ⟨b0, b1, b2, b3⟩ := hb
  obtain ⟨n0, n1, n2, n3⟩ := hb'
  have hlt : b' < w.heap.size := World.block_lt_of_cell? w _ n0
  have HE := hid (fun (w' : World) (h1 : RdL (Value.int .i64) w' Ag ys) (h2 : RdL (Value.int .i64) w' Aw ys) => eqCells_yes d0 d1 d2 Ag Aw ys.length cg cw ys w' rfl h1 h2 hn)
  have HM := hid (fun (w' : World) (h1 : OwnS (Value.int .i64) w' 0 2 Ag ys) => markCells_any d0 d1 d2 Ag cg 0 ys 1 w' h1 hn (by omega) (by omega) (Nat.zero_le _))
  have HH := hid (fun (w' : World) (h1 : RdL (Value.int .i64) w' Ag (marks markI 1 ys.length)) => heldCells_yes d0 d1 d2 Ag ys.length cg 1 w' h1 hn (by omega) (by omega))
  have hp : ¬ 1 + (ys.length : Int) < 0 := by omega
  have HBG := hid hbg
  clear hw hg hn hbg
  simp only [vc14, Try.f6]
  refine reach_seq ?_
  go_wp2_with (go_at_call 29; refine (HE.out _ HG.out.rd HW.out).mono ?_; rintro e w2 ⟨rfl, hb2⟩)
  have B2 := hid (HB'.out.grown hb2)
  have G2 := hid (HG.out.below hb2)
  have hlt2 : b' < w2.heap.size := Nat.lt_of_lt_of_le hlt hb2.size
  clear hb2 b0 b1 b2 b3 n0 n1 n2 n3 HE hlt
  obtain ⟨n0, n1, n2, n3⟩ := B2.out
  refine reach_seq ?_
  go_wp2
  refine reach_seq ?_
  go_wp2_with (go_at_call 30; refine (HM.out _ G2.out).mono ?_; rintro e w3 ⟨rfl, ho, _, ht⟩)
  have B3 : Hid (Bx w3 b' d0 d1 d2 Ag ys.length cg) := B2.out.stay (ht.block b' hlt2 (fun p hp => by simp at hp; subst hp; exact .inr fun o e => HBG.out _ e rfl))
  have O3 := hid ho
  clear ht ho n0 n1 n2 n3 HM hlt2
  obtain ⟨n0, n1, n2, n3⟩ := B3.out
  refine reach_seq ?_
  go_wp2
  refine reach_seq ?_
  go_wp2_with (go_at_call 31; refine (HH.out _ O3.out.rd).mono ?_; rintro e w4 ⟨rfl, hb4⟩)
  have O4 := hid (O3.out.below hb4)
  clear hb4
  refine reach_seq ?_
  go_wp2
  refine reach_seq ?_
  go_wp2
  refine reach_here ?_
  exact ⟨rfl, by kernel_rfl, O4.out⟩
set_option maxRecDepth 100000 in
set_option maxHeartbeats 4000000 in
theorem v_tail (T : Nat → Value) (v0 v1 v2 v3 v4 : Value) (d0 d1 d2 : Int) (Aw : Option Addr) (cw : Nat) (Ag : Option Addr) (cg : Nat) (Ah : Option Addr) (ch : Nat) (ys : List Int) (b b' : Nat) (g : Bool) (w : World) (hb : Bx w b d0 d1 d2 Aw ys.length cw) (hb' : Bx w b' d0 d1 d2 Ag ys.length cg) (hw : RdL (Value.int .i64) w Aw ys) (hg : RdL (Value.int .i64) w Ag (marks markI 1 ys.length)) (hh : RdL (Value.int .i64) w Ah ys) (hn : ys.length ≤ 1048576) :
    EndsM Try.prog vy24 [7, 8, 9, 10, 11, 12] 6 vc25 (fun u w' => u = .bool true)
      ⟨arrV8 T v0 v1 v2 v3 v4 (ptrB b) (.bool g) (ptrB b') (.int .i64 (1 + (ys.length : Int))) (.tuple #[cellV d0 d1 d2 Ah ys.length ch, .bool g]), []⟩ w := by
  have hn1 : Bx (w.alloc (Obj.cells #[Value.int .i64 d0, Value.int .i64 d1, Value.int .i64 d2, Value.slice Ah ys.length ch] 37)) w.heap.size d0 d1 d2 Ah ys.length ch := Bx.of (heap_alloc_new _ _)
  have hb1 := hb.grown (below_a1 w (Obj.cells #[Value.int .i64 d0, Value.int .i64 d1, Value.int .i64 d2, Value.slice Ah ys.length ch] 37))
  have HP := hid (hb'.grown (below_a1 w (Obj.cells #[Value.int .i64 d0, Value.int .i64 d1, Value.int .i64 d2, Value.slice Ah ys.length ch] 37)))
  have HW := hid (hw.below (below_a1 w (Obj.cells #[Value.int .i64 d0, Value.int .i64 d1, Value.int .i64 d2, Value.slice Ah ys.length ch] 37)))
  have HG := hid (hg.below (below_a1 w (Obj.cells #[Value.int .i64 d0, Value.int .i64 d1, Value.int .i64 d2, Value.slice Ah ys.length ch] 37)))
  have HH := hid (hh.below (below_a1 w (Obj.cells #[Value.int .i64 d0, Value.int .i64 d1, Value.int .i64 d2, Value.slice Ah ys.length ch] 37)))
  obtain ⟨b0, b1, b2, b3⟩ := hb1
  obtain ⟨n0, n1, n2, n3⟩ := hn1
  have HE := hid (fun (w' : World) (h1 : RdL (Value.int .i64) w' Ah ys) (h2 : RdL (Value.int .i64) w' Aw ys) => eqCells_yes d0 d1 d2 Ah Aw ys.length ch cw ys w' rfl h1 h2 hn)
  have HK := hid (fun (w' : World) (h1 : RdL (Value.int .i64) w' Ag (marks markI 1 ys.length)) => heldCells_yes d0 d1 d2 Ag ys.length cg 1 w' h1 hn (by omega) (by omega))
  have hp : ¬ 1 + (ys.length : Int) < 0 := by omega
  clear hb hb' hw hg hh hn
  refine endsM_of (wpOps_behind 7 (by kernel_rfl) ?_)
  simp only [vy24, vc25, Try.f6, List.drop_succ_cons, List.drop_zero]
  go_wp2
  simp only [Rel.Ends]
  go_wp2_with (first
    | (go_at_call 29; refine (HE.out _ HH.out HW.out).mono ?_; rintro e w2 ⟨rfl, hb2⟩; have P2 := HP.out.grown hb2; have G2 := hid (HG.out.below hb2); clear hb2 b0 b1 b2 b3 n0 n1 n2 n3; obtain ⟨p0, p1, p2, p3⟩ := P2)
    | (go_at_call 31; refine (HK.out _ G2.out).mono ?_; rintro e w3 ⟨rfl, hb3⟩))
  kernel_rfl
end Go.Proofs.Ytmmolicodlmlkaa.Ph
