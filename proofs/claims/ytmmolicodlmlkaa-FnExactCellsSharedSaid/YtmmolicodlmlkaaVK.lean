/-
  Parts of the proof: impl.RowsShared beside leavers: to its call of sharedWork, or to its return where nothing is worked on. impl.RowsShared at the machine: called beside leavers, and come back. impl.RowsShared at the machine: called beside leavers, and come back: with rows for all salts, or with nothing. A law beside leavers: what is known of its slices; calls that it makes. A law beside leavers: what is its own, and what it reads. A law beside leavers: marks are laid. toInt64S beside leavers, step by step: whatever else lies in the block that it reads. An own row takes an element: what is spare stays zero. The r No condition.
-/
import Derived.Test.YtmmolicodlmlkaaVJ
import Derived.Test.YtmmolicodlmlkaaVG
import Derived.Conc.LeavingOf
set_option linter.unusedVariables false
set_option linter.unusedSimpArgs false
namespace Go.Proofs.Ytmmolicodlmlkaa.Ph
open Go.Conc Go.ConcN Go.RowKit Go.Conc.Lib Go.ConcR.Gen Go.ConcN.Gen
open Go.ConcR (KK wgBlock WgAt stA smA rd wr mk DC0 Payload)
open Go.Proofs.Ytmmolicodlmlkaa.Rel
set_option linter.unusedVariables false
set_option linter.unusedSimpArgs false

def rsFs : FuncId → Bool := fun f => [65, 79, 80, 123, 124, 139, 63, 97].contains f
theorem rsOk1 : fnOk Try.prog rsFs Try.f65 = true := by kernel_rfl
theorem rsOk2 : fnOk Try.prog rsFs Try.f79 = true := by kernel_rfl
theorem rsOk3 : fnOk Try.prog rsFs Try.f80 = true := by kernel_rfl
theorem rsOk4 : fnOk Try.prog rsFs Try.f123 = true := by kernel_rfl
theorem rsOk5 : fnOk Try.prog rsFs Try.f124 = true := by kernel_rfl
theorem rsOk6 : fnOk Try.prog rsFs Try.f139 = true := by kernel_rfl
theorem rsOk7 : fnOk Try.prog rsFs Try.f63 = true := by kernel_rfl
theorem rsOk8 : fnOk Try.prog rsFs Try.f97 = true := by kernel_rfl
theorem rsFs_ok : ∀ f, rsFs f = true → ∃ fn, Try.prog.funcs[f]? = some fn ∧ fnOk Try.prog rsFs fn = true := by
  intro f hf
  simp [rsFs] at hf
  rcases hf with rfl | rfl | rfl | rfl | rfl | rfl | rfl | rfl
  · exact ⟨_, Try.func65, rsOk1⟩
  · exact ⟨_, Try.func79, rsOk2⟩
  · exact ⟨_, Try.func80, rsOk3⟩
  · exact ⟨_, Try.func123, rsOk4⟩
  · exact ⟨_, Try.func124, rsOk5⟩
  · exact ⟨_, Try.func139, rsOk6⟩
  · exact ⟨_, Try.func63, rsOk7⟩
  · exact ⟨_, Try.func97, rsOk8⟩
theorem rs_spine3 : spineOk Try.prog ⟨rsFs, fun _ => false, fun _ => false, fun _ => false⟩ 3 bodyRS = true := by kernel_rfl
theorem rs_spine2 : spineOk Try.prog ⟨rsFs, fun _ => false, fun _ => false, fun _ => false⟩ 2 bodyRS = true := by kernel_rfl
theorem rs_body : Try.f24.body = some bodyRS := rfl
theorem rs_enter (A : Option Addr) (n c : Nat) (A2 : Option Addr) (n2 c2 : Nat) (kw : Int) : Frame.enter Try.prog 24 #[.slice A n c, .slice A2 n2 c2, .int .i64 kw] .normal = (base 24).at (actRS A n c A2 n2 c2 kw) [.code bodyRS] := by
  rw [enter_at _ Try.func24 rs_body]
  kernel_rfl
theorem rs_results : Try.f24.results.all resOk = true := by kernel_rfl
noncomputable def rs4 : Array Oper := match Try.f24.body with | some (.seq _ (.seq _ (.seq _ (.seq (.region _ ops _) _)))) => ops | _ => #[]
noncomputable def rs5 : Code := match Try.f24.body with | some (.seq _ (.seq _ (.seq _ (.seq _ c)))) => c | _ => .skip
theorem nm_shared : (Try.f81.name == "runtime.NumGoroutine") = false := by kernel_rfl
section
variable {F : Nat → Prop} {w : World} {A A2 : Option Addr} {c c2 : Nat} {x sl : List Int} {kw : Int} {cs : List Frame}
/-- An argument of which every free block is known. -/
def ArgB (F : Nat → Prop) (w : World) (A : Option Addr) : Prop := ∀ a, A = some a → F a.block ∧ IntsA w a
/-- .. or may be looked at, whatever lies beside it. -/
def ArgP (F : Nat → Prop) (w : World) (A : Option Addr) : Prop := ∀ a, A = some a → F a.block ∧ Plz w a
theorem ArgB.p (h : ArgB F w A) : ArgP F w A := fun a ha => ⟨(h a ha).1, (h a ha).2.plz⟩
theorem fnsQ_no {fs : FuncId → Bool} {y : Nat} (hy : y < w.heap.size) : (fnsQ fs w F No).wr y = false := by
  classical
  simp only [fnsQ, fnsOf, hy, if_true, decide_eq_false_iff_not]
  exact id
theorem rs_okV (hF : ∀ b, F b → b < w.heap.size) (hA : ArgP F w A) (n c : Nat) : okV (fnsQ rsFs w F No) w.heap.size (.slice A n c) = true := by
  cases A with
  | none => simp
  | some a =>
    rw [okV_sliceA _ _ _ _ (hA a rfl).2.2]
    exact fnsQ_ok hF (hA a rfl).1 (hA a rfl).2.1
theorem rs_args (hF : ∀ b, F b → b < w.heap.size) (hA : ArgP F w A) (hA2 : ArgP F w A2) (n n2 : Nat) : ∀ z ∈ (actRS A n c A2 n2 c2 kw).tmps, okV (fnsQ rsFs w F No) w.heap.size z = true := by
  intro z hz
  simp at hz
  rcases hz with rfl | rfl | rfl | rfl
  · exact rs_okV hF hA _ _
  · exact rs_okV hF hA2 _ _
  · simp
  · exact okV_undef _ _
theorem rs_rdl (hF : ∀ b, F b → b < w.heap.size) (hA : ArgP F w A) (hx : RdL (Value.int .i64) w A x) : RdL (Value.int .i64) (loneW (fnsQ rsFs w F No) w) A x :=
  rdl_look hx (fun _ => by simp) fun b o _ e => ⟨rfl, fnsQ_old (hF _ (hA _ e).1) (hA _ e).1 (hA _ e).2.1, fnsQ_no (hF _ (hA _ e).1)⟩
set_option maxRecDepth 100000 in
set_option maxHeartbeats 4000000 in
/-- To the call of sharedWork. -/
theorem rs_gl (hF : ∀ b, F b → b < w.heap.size) (hG : Try.prog.globals.size ≤ w.heap.size) (hx : RdL (Value.int .i64) w A x) (hs : RdL (Value.int .i64) w A2 sl) (hxn : x.length ≤ 1048576) (hsn : sl.length ≤ 1048576) (hA : ArgP F w A) (hA2 : ArgP F w A2) (hg : gateRS x sl kw = true) :
    GL Try.prog (fun t g w' => ∃ bk bs bo C cells v9 v10 v11 v12 v13 v14 v15 v16 v17 v18 v19 v20 v21 v22 v23 v24 v25 v26 v27 v28 v29 v30 v31 v32 v33 v34 v35, cells.size = sl.length ∧ bk ≠ C ∧ bs ≠ C ∧ bo ≠ C ∧
      g = G (Frame.enter Try.prog 81 #[.int .i64 sl.length, .int .i64 kw, .func (.func 82) #[] #[ptr bk, ptr bs, ptr bo]] .normal)
        ((base 24).at ⟨#[.slice A x.length c, .slice A2 sl.length c2, .int .i64 kw, ptr bk, ptr bs, undef, .slice none 0 0, .bool false, ptr bo, v9, v10, v11, v12, v13, v14, v15, v16, v17, v18, v19, v20, v21, v22, v23, v24, v25, v26, v27, v28, v29, v30, v31, v32, v33, v34, v35], []⟩ [.inRegion rs4 [4], .code rs5] :: cs) ∧
      LK [(bk, #[.slice A x.length c], 22), (bs, #[.slice A2 sl.length c2], 22), (bo, #[.slice (some ⟨C, 0, none⟩) sl.length sl.length], 29), (C, cells, 22)] F w t w') F
      (G (Frame.enter Try.prog 24 #[.slice A x.length c, .slice A2 sl.length c2, .int .i64 kw] .normal) cs) w := by
  rw [rs_enter]
  simp only [gateRS, Bool.and_eq_true, decide_eq_true_eq] at hg
  obtain ⟨⟨⟨h1, h2⟩, h3⟩, h4⟩ := hg
  have hcut := gl_cut (P := Try.prog) (fs := rsFs) (v := w) (F := F) (W := No) (cs := cs) (f := 24) (c := bodyRS) (n := 3) (a := actRS A x.length c A2 sl.length c2 kw) (Pre := PreRS A c x A2 c2 sl kw w.heap.size) (fun b h => h.elim) hF zero_ok hG rsFs_ok rs_spine3 rfl (rs_args hF hA hA2 _ _) (fun τ => by
    have := rows_reach A c x A2 c2 sl kw { loneW (fnsQ rsFs w F No) w with tape := τ, drawn := 0 } (rs_rdl hF hA hx) (rs_rdl hF hA2 hs) hxn hsn h1 h2 h3 h4
    have e : ({ loneW (fnsQ rsFs w F No) w with tape := τ, drawn := 0 } : World).heap.size = w.heap.size := loneW_size
    rw [e] at this
    exact this)
  refine Go1.bind (fun _ a => RS.refl a) hcut ?_
  rintro t g w' ⟨s, rfl, ρ, a', wl, rfl, ⟨bk, bs, bo, C, v9, v10, v11, v12, v13, v14, v15, v16, v17, v18, v19, v20, v21, v22, v23, v24, v25, v26, v27, v28, v29, rfl, l1, l2, l3, l4, n1, n2, n3, q1, q2, q3, cells, q4, q5⟩, hok, hL⟩
  have hnew : ∀ b, w.heap.size ≤ b → (fnsQ rsFs w F No).al b = true := fun b hb => (fnsOf_new hb).1
  have okA : ∀ {B : Option Addr}, ArgP F w B → B.map (renS ρ) = B := by
    intro B hB
    cases B with
    | none => rfl
    | some a =>
      have := hL.id a.block (hF _ (hB a rfl).1)
      rw [Option.map_some, renS_none _ (hB a rfl).2.2]
      simp only [renA, this]
  have ea := okA hA
  have ea2 := okA hA2
  have hK : LK [(ρ.f bk, #[.slice A x.length c], 22), (ρ.f bs, #[.slice A2 sl.length c2], 22), (ρ.f bo, #[.slice (some ⟨ρ.f C, 0, none⟩) sl.length sl.length], 29), (ρ.f C, cells.map (ren ρ), 22)] F w (fun b => (F b ∧ ¬ No b) ∨ s b) w' := by
    have lt : ∀ {b : Nat} {o : Obj}, wl.heap[b]? = some o → b < wl.heap.size := fun h => (Array.getElem?_eq_some_iff.1 h).1
    have p1 := (left_blk hL (hnew _ l1) q1).1
    have p2 := (left_blk hL (hnew _ l2) q2).1
    have p3 := (left_blk hL (hnew _ l3) q3).1
    have p4 := (left_blk hL (hnew _ l4) q4).1
    simp only [List.map_toArray, List.map_cons, List.map_nil, ren_slice, ea, ea2, Option.map_some, renS_lit, renA] at p1 p2 p3
    have m1 := left_new hL l1 (lt q1)
    have m2 := left_new hL l2 (lt q2)
    have m3 := left_new hL l3 (lt q3)
    have m4 := left_new hL l4 (lt q4)
    refine ⟨hL.size, fun p hp => ?_, fun b hb => .inl ⟨hb, id⟩, hF, fun b hb => ?_, fun b hb => ?_, fun b hb => hL.rd b ⟨hb, id⟩, hL.tape, hL.os, hL.output⟩
    · simp at hp
      rcases hp with rfl | rfl | rfl | rfl
      · exact ⟨.inr m1.1, m1.2, p1⟩
      · exact ⟨.inr m2.1, m2.2, p2⟩
      · exact ⟨.inr m3.1, m3.2, p3⟩
      · exact ⟨.inr m4.1, m4.2, p4⟩
    · rcases hb with hb | hb
      · exact Nat.lt_of_lt_of_le (hF b hb.1) hL.size
      · exact left_low hL hnew (fun b h => h.elim) hb
    · rcases hb with hb | hb
      · exact .inl hb.1
      · rcases (hL.mine b).1 hb with h | ⟨y, y1, _, rfl⟩
        · exact h.elim
        · exact .inr (hL.new y y1)
  have inj : ∀ {a b : Nat}, a ≠ b → ρ.f a ≠ ρ.f b := fun h e => h (ρ.inj _ _ e)
  have hsz : (cells.map (ren ρ)).size = sl.length := by simpa using q5
  have z1 := inj n1
  have z2 := inj n2
  have z3 := inj n3
  simp only [List.map_toArray, List.map_cons, List.map_nil, ren_pointer, ren_slice, ren_int, ren_bool, ren_undef, Option.map_some, Option.map_none, renS_lit, renA, ea, ea2]
  generalize cells.map (ren ρ) = cells at hK hsz
  generalize ρ.f bk = bk at hK z1 ⊢
  generalize ρ.f bs = bs at hK z2 ⊢
  generalize ρ.f bo = bo at hK z3 ⊢
  generalize ρ.f C = C at hK z1 z2 z3
  clear hok hL q1 q2 q3 q4 okA ea ea2 inj hcut hnew n1 n2 n3 l1 l2 l3 l4
  have hF0 := hF
  clear hF
  have hF := hK
  clear hK
  generalize (fun b => (F b ∧ ¬ No b) ∨ s b) = S at hF ⊢
  have rl : ∀ {own : List (Nat × Array Value × TypeId)} {a b : World}, LK own F w S a → RS No S a b → LK own F w S b := fun h r => h.rely r
  refine gl_go (n := 40) ?_
  simp only [bodyRS, Try.f24, cut]
  (u_in rl hF; rw [stepG_seq]; simp only [goes_go]; refine ⟨by (refine de1_none ?_; intro e he; simp at he), ?_⟩)
  (u_in rl hF; rw [stepG_region]; simp only [goes_go, List.size_toArray, List.length_cons, List.length_nil, Nat.reduceAdd, Nat.zero_add, List.range, List.range.loop]; refine ⟨by (refine de1_none ?_; intro e he; simp at he), ?_⟩)
  g_opw rl hF [(hF.cell (b := bs) (c := #[.slice A2 sl.length c2]) (t := 22) (by simp) 0).trans rfl] rfl (.inl ⟨_, rfl, .inl (hF.own (bs, #[.slice A2 sl.length c2], 22) (by simp)).1, rfl⟩)
  u_in rl hF
  refine goes_oper_k rfl rfl (by k_ne) (fun K hK => ?_)
  go_simp
  refine hK _ _ ⟨?_, ?_⟩
  · refine de1_none ?_
    intro e he
    have hm := mem_listed he
    simp [go_sem, *] at hm
  clear hK K
  try w_num
  u_in rl hF
  refine goes_oper_k rfl rfl (by k_ne) (fun K hK => ?_)
  go_simp
  refine hK _ _ ⟨?_, ?_⟩
  · refine de1_none ?_
    intro e he
    have hm := mem_listed he
    simp [go_sem, *] at hm
  clear hK K
  try w_num
  u_in rl hF
  refine goes_oper_k rfl rfl (by k_ne) (fun K hK => ?_)
  go_simp
  refine hK _ _ ⟨?_, ?_⟩
  · refine de1_none ?_
    intro e he
    have hm := mem_listed he
    simp [go_sem, *] at hm
  clear hK K
  try w_num
  u_in rl hF
  refine goes_call rfl rfl (by k_ne) rfl Try.func81 nm_shared rfl ⟨by (refine de1_none ?_; intro e he; simp at he), ?_⟩
  rw [← enter_at _ Try.func81 rfl]
  refine Goes.stop fun w₁ h₁ => Go1.stop fun w₂ h₂ => ?_
  exact ⟨bk, bs, bo, C, cells, ren ρ v9, ren ρ v10, ren ρ v11, ren ρ v12, ren ρ v13, ren ρ v14, ren ρ v15, ren ρ v16, ren ρ v17, ren ρ v18, ren ρ v19, ren ρ v20, ren ρ v21, ren ρ v22, ren ρ v23, ren ρ v24, ren ρ v25, ren ρ v26, ren ρ v27, ren ρ v28, ren ρ v29, .slice A2 sl.length c2, .int .i64 sl.length, .int .i64 kw, .func (.func 82) #[] #[ptr bk, ptr bs, ptr bo], undef, undef, hsz, z1, z2, z3, by kernel_rfl, rl (rl hF h₁) h₂⟩
end
end Go.Proofs.Ytmmolicodlmlkaa.Ph
namespace Go.Proofs.Ytmmolicodlmlkaa.Ph
open Go.Conc Go.ConcN Go.RowKit Go.Conc.Lib Go.ConcR.Gen Go.ConcN.Gen
open Go.ConcR (KK wgBlock WgAt stA smA rd wr mk DC0 Payload)
open Go.Proofs.Ytmmolicodlmlkaa.Rel
set_option linter.unusedVariables false
set_option linter.unusedSimpArgs false

section
variable {F : Nat → Prop} {w : World} {A A2 : Option Addr} {c c2 : Nat} {x sl : List Int} {kw : Int} {cs : List Frame} {b₀ : Frame} {a₀ : Act} {ops₀ : Array Oper} {i₀ : Nat} {rest₀ : List Nat} {k₀ : List Item}
/-- What it leaves where nothing that was free is written. -/
theorem lk_left {P : Program} {fs : FuncId → Bool} {s : Nat → Prop} {ρ : Rn} {wl w' : World} (hF : ∀ b, F b → b < w.heap.size) (hL : Rel.Left P (fnsQ fs w F No) w (fun b => F b ∧ ¬ No b) No ρ wl s w') : LK [] F w (fun b => (F b ∧ ¬ No b) ∨ s b) w' := by
  refine ⟨hL.size, by simp, fun b hb => .inl ⟨hb, id⟩, hF, fun b hb => ?_, fun b hb => ?_, fun b hb => hL.rd b ⟨hb, id⟩, hL.tape, hL.os, hL.output⟩
  · rcases hb with hb | hb
    · exact Nat.lt_of_lt_of_le (hF b hb.1) hL.size
    · exact left_low hL (fun b hb => (fnsQ_new hb).1) (fun b h => h.elim) hb
  · rcases hb with hb | hb
    · exact .inl hb.1
    · rcases (hL.mine b).1 hb with h | ⟨y, y1, _, rfl⟩
      · exact h.elim
      · exact .inr (hL.new y y1)
theorem rs_no (hF : ∀ b, F b → b < w.heap.size) (hG : Try.prog.globals.size ≤ w.heap.size) (hx : RdL (Value.int .i64) w A x) (hs : RdL (Value.int .i64) w A2 sl) (hxn : x.length ≤ 1048576) (hsn : sl.length ≤ 1048576) (hA : ArgP F w A) (hA2 : ArgP F w A2) (hg : gateRS x sl kw = false) :
    GL Try.prog (fun t g w' => g = G (b₀.at (a₀.put ((ops₀[i₀]?).bind (·.dst)) (.tuple #[.slice none 0 0, .bool false])) (.inRegion ops₀ rest₀ :: k₀)) cs ∧ LK [] F w t w') F
      (G (Frame.enter Try.prog 24 #[.slice A x.length c, .slice A2 sl.length c2, .int .i64 kw] .normal) (b₀.at a₀ (.inRegion ops₀ (i₀ :: rest₀) :: k₀) :: cs)) w := by
  rw [rs_enter]
  have h1 := gl_back (b₀ := b₀) (a₀ := a₀) (ops₀ := ops₀) (i₀ := i₀) (rest₀ := rest₀) (k₀ := k₀) (cs := cs) (fun b h => h.elim) (gl_ret (P := Try.prog) (fs := rsFs) (v := w) (F := F) (W := No) (f := 24) (c := bodyRS) (n := 2) (a := actRS A x.length c A2 sl.length c2 kw) (Q := fun u w' => u = .tuple #[.slice none 0 0, .bool false]) (fun b h => h.elim) hF zero_ok hG rsFs_ok
    Try.func24 rs_results rs_spine2 rfl (rs_args hF hA hA2 _ _) (fun τ => by
      have := rows_rets A c x A2 c2 sl kw { loneW (fnsQ rsFs w F No) w with tape := τ, drawn := 0 } (rs_rdl hF hA hx) (rs_rdl hF hA2 hs) hxn hsn hg
      unfold Rets at this ⊢
      exact Code.wp_mono (fun e a w' ⟨h1, h2, fn, v, h3, h4, h5, _⟩ => ⟨h1, h2, fn, v, h3, h4, h5⟩) this))
  refine Go1.widen h1 ?_
  rintro t g w' ⟨s, rfl, ρ, u, wl, rfl, rfl, hok, hL⟩
  refine ⟨by simp, lk_left hF hL⟩
set_option maxRecDepth 100000 in
set_option maxHeartbeats 4000000 in
/-- From behind sharedWork to the return. -/
theorem rs_last {bk bs bo C n : Nat} {v9 v10 v11 v12 v13 v14 v15 v16 v17 v18 v19 v20 v21 v22 v23 v24 v25 v26 v27 v28 v29 v30 v31 v32 v33 v34 v35 v0 v1 v2 : Value} (hF : ∀ b, F b → b < w.heap.size) (hb : F bo) (hc : w.cell? ⟨bo, 0, none⟩ = some (.slice (some ⟨C, 0, none⟩) n n)) :
    GL Try.prog (fun t g w' => g = G (b₀.at (a₀.put ((ops₀[i₀]?).bind (·.dst)) (.tuple #[.slice (some ⟨C, 0, none⟩) n n, .bool true])) (.inRegion ops₀ rest₀ :: k₀)) cs ∧ LK [] F w t w') F
      (G ((base 24).at (Act.put ⟨#[v0, v1, v2, ptr bk, ptr bs, undef, .slice none 0 0, .bool false, ptr bo, v9, v10, v11, v12, v13, v14, v15, v16, v17, v18, v19, v20, v21, v22, v23, v24, v25, v26, v27, v28, v29, v30, v31, v32, v33, v34, v35], []⟩ ((rs4[4]?).bind (·.dst)) (.tuple #[])) [.inRegion rs4 [], .code rs5]) (b₀.at a₀ (.inRegion ops₀ (i₀ :: rest₀) :: k₀) :: cs)) w := by
  have hF0 := hF
  clear hF
  have hF : LK [] F w F w := LK.refl hF0
  have rl : ∀ {own : List (Nat × Array Value × TypeId)} {S : Nat → Prop} {a b : World}, LK own F w S a → RS No S a b → LK own F w S b := fun h r => h.rely r
  refine gl_go (n := 40) ?_
  simp only [rs4, rs5, Try.f24]
  walk_nrm
  (u_in rl hF; rw [stepG_region_end]; simp only [goes_go]; refine ⟨by (refine de1_none ?_; intro e he; simp at he), ?_⟩)
  (u_in rl hF; rw [stepG_seq]; simp only [goes_go]; refine ⟨by (refine de1_none ?_; intro e he; simp at he), ?_⟩)
  (u_in rl hF; rw [stepG_region]; simp only [goes_go, List.size_toArray, List.length_cons, List.length_nil, Nat.reduceAdd, Nat.zero_add, List.range, List.range.loop]; refine ⟨by (refine de1_none ?_; intro e he; simp at he), ?_⟩)
  g_opw rl hF [(cell_stay (a := ⟨bo, 0, none⟩) (hF.old bo hb)).trans hc] rfl (.inl ⟨_, rfl, .inl hb, rfl⟩)
  u_in rl hF
  refine goes_oper_k rfl rfl (by k_ne) (fun K hK => ?_)
  go_simp
  refine hK _ _ ⟨?_, ?_⟩
  · refine de1_none ?_
    intro e he
    have hm := mem_listed he
    simp [go_sem, *] at hm
  clear hK K
  try w_num
  u_in rl hF
  refine goes_oper_k rfl rfl (by k_ne) (fun K hK => ?_)
  go_simp
  refine hK _ _ ⟨?_, ?_⟩
  · refine de1_none ?_
    intro e he
    have hm := mem_listed he
    simp [go_sem, *] at hm
  clear hK K
  try w_num
  (u_in rl hF; rw [stepG_region_end]; simp only [goes_go]; refine ⟨by (refine de1_none ?_; intro e he; simp at he), ?_⟩)
  (u_in rl hF; rw [stepG_ret']; simp only [goes_go]; refine ⟨by (refine de1_none ?_; intro e he; simp at he), ?_⟩)
  u_in rl hF
  refine goes_leave2 rfl rfl Try.func24 rfl ⟨by (refine de1_none ?_; intro e he; simp at he), ?_⟩
  refine Goes.stop fun w₁ h₁ => Go1.stop fun w₂ h₂ => ⟨by kernel_rfl, rl (rl hF h₁) h₂⟩
end
end Go.Proofs.Ytmmolicodlmlkaa.Ph
namespace Go.Proofs.Ytmmolicodlmlkaa.Ph
open Go.Conc Go.ConcN Go.RowKit Go.Conc.Lib Go.ConcR.Gen Go.ConcN.Gen
open Go.ConcR (KK wgBlock WgAt stA smA rd wr mk DC0 Payload)
open Go.Proofs.Ytmmolicodlmlkaa.Rel
set_option linter.unusedVariables false
set_option linter.unusedSimpArgs false

/-- What is free stays free, and stands. -/
structure Grow (Shun : Loc → Prop) (w : World) (Shun' : Loc → Prop) (w' : World) : Prop where
  tape : w'.tape = w.tape
  os : w'.os = w.os
  output : w'.output = w.output
  size : w.heap.size ≤ w'.heap.size
  old : ∀ y, FreeB Shun w y → FreeB Shun' w' y ∧ w'.heap[y]? = w.heap[y]?
theorem Grow.trans {a b c : World} {s t u : Loc → Prop} (h : Grow s a t b) (k : Grow t b u c) : Grow s a u c :=
  ⟨k.tape.trans h.tape, k.os.trans h.os, k.output.trans h.output, Nat.le_trans h.size k.size, fun y hy => ⟨(k.old y (h.old y hy).1).1, (k.old y (h.old y hy).1).2.trans (h.old y hy).2⟩⟩
/-- From what a walk leaves. -/
theorem LK.grow {own : List (Nat × Array Value × TypeId)} {Shun : Loc → Prop} {w w' : World} {S : Nat → Prop} (h : LK own (FreeB Shun w) w S w') (hf : ∀ b, S b → FreeB Shun w' b) : Grow Shun w Shun w' :=
  ⟨h.tape, h.os, h.output, h.size, fun y hy => ⟨hf y (h.sub y hy), h.old y hy⟩⟩
section
variable {Shun : Loc → Prop} {w w' : World} {Wg : Nat}
theorem free_low {b : Nat} (hs : ∀ l, Shun l → l.isMemory = true ∧ l.low w.heap.size) (hb : b < w'.heap.size) (hne : b ≠ Wg) (ho : b < w.heap.size → FreeB Shun w b) : FreeB (fun l => Shun l ∨ ShN Wg l) w' b := by
  refine ⟨hb, fun l hl hsl => ?_⟩
  rcases hsl with hsl | ⟨a, rfl, e⟩
  · have hlow := (hs l hsl).2
    cases l with
    | cell a =>
      have e : a.block = b := hl
      have hlow : a.block < w.heap.size := hlow
      exact (ho (by omega)).2 (.cell a) e hsl
    | obj r =>
      have e : r = b := hl
      have hlow : r < w.heap.size := hlow
      exact (ho (by omega)).2 (.obj r) e hsl
    | output => exact hl.elim
    | goroutines => exact hl.elim
    | mark m => exact hl.elim
  · have e2 : a.block = b := hl
    exact hne (e2.symm.trans e)
end
theorem rows_lo {lo lo' C : Nat} {x sl : List Int} {D S : Nat → Prop} {w : World} (h : RowsIn lo C x sl D S w) (hl : lo' ≤ lo) : RowsIn lo' C x sl D S w := by
  obtain ⟨R, cc, h1, h2⟩ := h
  refine ⟨R, cc, fun o ho => ⟨(h1 o ho).1, fun hne => ?_, (h1 o ho).2.2⟩, h2⟩
  obtain ⟨g, ex, e1, e2, e3⟩ := (h1 o ho).2.1 hne
  exact ⟨g, ex, e1, Nat.le_trans hl e2, e3⟩
theorem rows_join {lo C k n : Nat} {x sl : List Int} {Sg : Nat → Nat → Prop} {S : Nat → Prop} {w : World} (hk : 1 ≤ k) (h : ∀ j, j < k → RowsIn lo C x sl (fun o => o < n ∧ o % k = j) (Sg j) w) (hd : ∀ i j b, i < k → j < k → Sg i b → Sg j b → i = j) (hS : ∀ i b, i < k → Sg i b → S b) :
    RowsIn lo C x sl (fun o => o < n) S w := by
  have hm : ∀ o : Nat, o % k < k := fun o => Nat.mod_lt o (by omega)
  refine ⟨fun o => Classical.choose (h (o % k) (hm o)) o, fun o => Classical.choose (Classical.choose_spec (h (o % k) (hm o))) o, fun o ho => ?_, fun o o' a a' ho ho' ha ha' hb => ?_⟩
  · obtain ⟨q1, q2, q3⟩ := (Classical.choose_spec (Classical.choose_spec (h (o % k) (hm o)))).1 o ⟨ho, rfl⟩
    exact ⟨q1, q2, fun a ha => ⟨hS _ _ (hm o) (q3 a ha).1, (q3 a ha).2⟩⟩
  · have p1 := ((Classical.choose_spec (Classical.choose_spec (h (o % k) (hm o)))).1 o ⟨ho, rfl⟩).2.2 a ha
    have p2 := ((Classical.choose_spec (Classical.choose_spec (h (o' % k) (hm o')))).1 o' ⟨ho', rfl⟩).2.2 a' ha'
    have e := hd _ _ _ (hm o) (hm o') p1.1 (hb ▸ p2.1)
    have key : ∀ j (hj : j < k), j = o % k → o' % k = j → Classical.choose (h (o' % k) (hm o')) o' = Classical.choose (h j hj) o' := by
      intro j hj _ e2
      subst e2
      rfl
    have ha2 := (key _ (hm o) rfl e.symm).symm.trans ha'
    exact (Classical.choose_spec (Classical.choose_spec (h (o % k) (hm o)))).2 o o' a a' ⟨ho, rfl⟩ ⟨ho', e.symm⟩ ha ha2 hb
/-- What impl.RowsShared returns. -/
def RowsRes (Shun' : Loc → Prop) (w0 w' : World) (x sl : List Int) (kw : Int) (v : Value) : Prop :=
  (gateRS x sl kw = false ∧ v = .tuple #[.slice none 0 0, .bool false]) ∨
  (gateRS x sl kw = true ∧ ∃ C cells, v = .tuple #[.slice (some ⟨C, 0, none⟩) sl.length sl.length, .bool true] ∧ w0.heap.size ≤ C ∧ FreeB Shun' w' C ∧ w'.heap[C]? = some (.cells cells 22 (0, 0)) ∧ cells.size = sl.length ∧
    RowsIn w0.heap.size C x sl (fun o => o < sl.length) (fun b => w0.heap.size ≤ b ∧ b ≠ C ∧ FreeB Shun' w' b) w')
section
variable {Shun : Loc → Prop} {w : World} {m : Machine} {t : Trace} {A A2 : Option Addr} {c c2 : Nat} {x sl : List Int} {kw : Int} {cs : List Frame} {b₀ : Frame} {a₀ : Act} {ops₀ : Array Oper} {i₀ : Nat} {rest₀ : List Nat} {k₀ : List Item}
theorem argp_stay {F F' : Nat → Prop} {w' : World} (h : ArgP F w A) (hF : ∀ y, F y → F' y ∧ w'.heap[y]? = w.heap[y]?) : ArgP F' w' A := fun a ha => ⟨(hF _ (h a ha).1).1, (h a ha).2.stay (hF _ (h a ha).1).2⟩
theorem argb_stay {F F' : Nat → Prop} {w' : World} (h : ArgB F w A) (hF : ∀ y, F y → F' y ∧ w'.heap[y]? = w.heap[y]?) : ArgB F' w' A := fun a ha => ⟨(hF _ (h a ha).1).1, (h a ha).2.stay (hF _ (h a ha).1).2⟩
/-- ████ impl.RowsShared, CALLED AND COME BACK. ████ -/
theorem rows_machine (h : At Try.prog Shun (G (Frame.enter Try.prog 24 #[.slice A x.length c, .slice A2 sl.length c2, .int .i64 kw] .normal) (b₀.at a₀ (.inRegion ops₀ (i₀ :: rest₀) :: k₀) :: cs)) w m t)
    (hG : Try.prog.globals.size ≤ w.heap.size) (hx : RdL (Value.int .i64) w A x) (hs : RdL (Value.int .i64) w A2 sl) (hxn : x.length ≤ 1048576) (hsn : sl.length ≤ 1048576) (hA : ArgP (FreeB Shun w) w A) (hA2 : ArgP (FreeB Shun w) w A2) :
    ∃ K m' t' w' Shun' v, runNT Try.prog K m t = (.next m', t') ∧ At Try.prog Shun' (G (b₀.at (a₀.put ((ops₀[i₀]?).bind (·.dst)) v) (.inRegion ops₀ rest₀ :: k₀)) cs) w' m' t' ∧ Grow Shun w Shun' w' ∧ RowsRes Shun' w w' x sl kw v := by
  cases hg : gateRS x sl kw with
  | false =>
    obtain ⟨K, m', t', g', w', S', r1, hAt, ⟨rfl, hK⟩, hfree, _⟩ := h.walk (fun S g w d ⟨e, hF⟩ => ⟨e, hF.at⟩) (rs_no (fun b hb => hb.1) hG hx hs hxn hsn hA hA2 hg)
    exact ⟨K, m', t', w', Shun, _, r1, hAt, hK.grow hfree, .inl ⟨hg, rfl⟩⟩
  | true =>
    have hg0 := hg
    simp only [gateRS, Bool.and_eq_true, decide_eq_true_eq] at hg0
    obtain ⟨⟨⟨g1, g2⟩, g3⟩, g4⟩ := hg0
    obtain ⟨g5, g6⟩ := keysQ_iff g1
    have g7 : ∀ y ∈ sl, 0 ≤ y ∧ y ≤ 4294967295 := by
      intro y hy
      unfold allB at g3
      have := List.all_eq_true.1 g3 y hy
      simpa [Go.Proofs.Ytmmolicodlmlkaa.inB] using this
    have g8 : 1 ≤ kw ∧ kw ≤ 8 := by simpa [Go.Proofs.Ytmmolicodlmlkaa.inB] using g4
    obtain ⟨k, rfl⟩ := Int.eq_ofNat_of_zero_le (show 0 ≤ kw by omega)
    obtain ⟨K1, m1, t1, gg, w1, S1, r1, hAt1, ⟨bk, bs, bo, C, cells, v9, v10, v11, v12, v13, v14, v15, v16, v17, v18, v19, v20, v21, v22, v23, v24, v25, v26, v27, v28, v29, v30, v31, v32, v33, v34, v35, hsz, z1, z2, z3, rfl, hK⟩, hfree, _⟩ :=
      h.walk (fun S g w d ⟨bk, bs, bo, C, cells, v9, v10, v11, v12, v13, v14, v15, v16, v17, v18, v19, v20, v21, v22, v23, v24, v25, v26, v27, v28, v29, v30, v31, v32, v33, v34, v35, h1, h2, h3, h4, h5, h6⟩ =>
        ⟨bk, bs, bo, C, cells, v9, v10, v11, v12, v13, v14, v15, v16, v17, v18, v19, v20, v21, v22, v23, v24, v25, v26, v27, v28, v29, v30, v31, v32, v33, v34, v35, h1, h2, h3, h4, h5, h6.at⟩) (rs_gl (fun b hb => hb.1) hG hx hs hxn hsn hA hA2 hg)
    obtain ⟨ok1, ok2, ok3⟩ := hK.own (bk, #[.slice A x.length c], 22) (by simp)
    obtain ⟨os1, os2, os3⟩ := hK.own (bs, #[.slice A2 sl.length c2], 22) (by simp)
    obtain ⟨oo1, oo2, oo3⟩ := hK.own (bo, #[.slice (some ⟨C, 0, none⟩) sl.length sl.length], 29) (by simp)
    obtain ⟨oc1, oc2, oc3⟩ := hK.own (C, cells, 22) (by simp)
    simp only at ok1 ok2 ok3 os1 os2 os3 oo1 oo2 oo3 oc1 oc2 oc3
    have hgrow1 := hK.grow hfree
    have neC : ∀ y, FreeB Shun w y → y ≠ C := fun y hy e => by have := hy.1; omega
    have I : RowIn Shun w1 A c x A2 c2 sl C bk bs bo :=
      { glob := Nat.le_trans hG hK.size, x256 := g5, s32 := g2, xb := g6, sb := g7,
        rx := rdl_stay hx fun a ha => hK.old _ (hA a ha).1, rs := rdl_stay hs fun a ha => hK.old _ (hA2 a ha).1,
        bA := fun a ha => ⟨(hgrow1.old _ (hA a ha).1).1, neC _ (hA a ha).1, (hA a ha).2.stay (hK.old _ (hA a ha).1)⟩,
        bA2 := fun a ha => ⟨(hgrow1.old _ (hA2 a ha).1).1, neC _ (hA2 a ha).1, (hA2 a ha).2.stay (hK.old _ (hA2 a ha).1)⟩,
        hk := ⟨hfree _ ok1, z1, _, ok3⟩, hs := ⟨hfree _ os1, z2, _, os3⟩, ho := ⟨hfree _ oo1, z3, _, oo3⟩, hC := ⟨_, _, oc3, hsz⟩ }
    have hs1 := hAt1.shun
    obtain ⟨K2, m2, t2, w2, Wg, Sg, r2, hAt2, hWg, hU, hsz2, hfact, hSg, hdis⟩ := shared_machine hAt1 (hfree _ oc1) (mine := fun j o => o % k = j) (J := fun j i S w => JR Shun C w1 x sl k j i S w) (Fact := fun j S w => FactR w1.heap.size C x sl k j S w) (fun i k o h1 h2 => h1.symm.trans h2) (fun i S w' hF => hF.1)
      (fun Wg b1 b2 b3 hWg => row_task I (by omega) hWg b1 b2 b3)
    have free2 : ∀ b, b < w2.heap.size → b ≠ Wg → (b < w1.heap.size → FreeB Shun w1 b) → FreeB (fun l => Shun l ∨ ShN Wg l) w2 b := fun b h1 h2 h3 => free_low hs1 h1 h2 h3
    have free12 : ∀ y, FreeB Shun w1 y → FreeB (fun l => Shun l ∨ ShN Wg l) w2 y := fun y hy => free2 y (by have := hy.1; omega) (by have := hy.1; omega) fun _ => hy
    have hbo := hfree _ oo1
    have hbo2 : w2.cell? ⟨bo, 0, none⟩ = some (.slice (some ⟨C, 0, none⟩) sl.length sl.length) := cell0 ((hU.2.1 bo hbo z3).trans oo3)
    obtain ⟨K3, m3, t3, gg, w3, S3, r3, hAt3, ⟨rfl, hK3⟩, hfree3, _⟩ := hAt2.walk (fun S g w d ⟨e, hF⟩ => ⟨e, hF.at⟩) (rs_last (fun b hb => hb.1) (free12 bo hbo) hbo2)
    have hgrow3 := hK3.grow hfree3
    have hgrow : Grow Shun w (fun l => Shun l ∨ ShN Wg l) w3 := by
      refine ⟨hgrow3.tape.trans (hU.1.1.trans hK.tape), hgrow3.os.trans (hU.1.2.1.trans hK.os), hgrow3.output.trans (hU.1.2.2.trans hK.output), by have := hK.size; have := hgrow3.size; omega, fun y hy => ?_⟩
      have h1 := hgrow1.old y hy
      have h3 := hgrow3.old y (free12 y h1.1)
      exact ⟨h3.1, h3.2.trans ((hU.2.1 y h1.1 (neC y hy)).trans h1.2)⟩
    have hCf := free12 C (hfree _ oc1)
    obtain ⟨cells', hC1, hC2, _⟩ := hU.2.2 _ _ _ oc3
    refine ⟨K1 + (K2 + K3), m3, t3, w3, _, _, run_trans r1 (run_trans r2 r3), hAt3, hgrow, .inr ⟨hg, C, cells', rfl, oc2, (hgrow3.old C hCf).1, (hgrow3.old C hCf).2.trans hC1, hC2.trans hsz, ?_⟩⟩
    have hR2 : RowsIn w1.heap.size C x sl (fun o => o < sl.length) (fun b => w1.heap.size ≤ b ∧ b ≠ C ∧ FreeB (fun l => Shun l ∨ ShN Wg l) w2 b) w2 :=
      rows_join (k := k) (by omega) (fun j hj => (hfact j hj).2) hdis fun i b hi hb => by
        obtain ⟨q1, q2, q3, q4⟩ := hSg i b hi hb
        exact ⟨q1, q4, free2 b q2 q3 fun h => by omega⟩
    refine rows_lo (RowsIn.stay (mine := fun _ => True) hR2 (fun b hb => (hgrow3.old b hb.2.2).2) (.of_block (hgrow3.old C hCf).2) (fun _ _ => trivial) fun b hb => ⟨by have := hK.size; have := hb.1; omega, hb.2.1, (hgrow3.old b hb.2.2).1⟩) hK.size
end
end Go.Proofs.Ytmmolicodlmlkaa.Ph
namespace Go.Proofs.Ytmmolicodlmlkaa.Ph
open Go.Conc Go.ConcN Go.RowKit Go.Conc.Lib Go.ConcR.Gen Go.ConcN.Gen
open Go.ConcR (KK wgBlock WgAt stA smA rd wr mk DC0 Payload)
open Go.Proofs.Ytmmolicodlmlkaa.Rel
set_option linter.unusedVariables false
set_option linter.unusedSimpArgs false

/-- A row of slices of numbers that may be read, each of them too. -/
def SSr (F : Nat → Prop) (w : World) (A : Option Addr) (xss : List (List Int)) : Prop :=
  ArgP F w A ∧ ∀ o (h : o < xss.length), ∃ C k R cc, A = some ⟨C, k, none⟩ ∧ w.cell? ⟨C, k + o, none⟩ = some (.slice R xss[o].length cc) ∧ RdL (Value.int .i64) w R xss[o] ∧ (ArgP F w R ∨ (xss[o] = [] ∧ cc = 0))
/-- .. each in a block of its own. -/
def SSo (F : Nat → Prop) (w : World) (A : Option Addr) (xss : List (List Int)) : Prop :=
  ∃ (R : Nat → Option Addr) (cc : Nat → Nat), (∀ o (h : o < xss.length), ∃ C, A = some ⟨C, 0, none⟩ ∧ w.cell? ⟨C, o, none⟩ = some (.slice (R o) xss[o].length (cc o)) ∧ OwnS (Value.int .i64) w 0 2 (R o) xss[o] ∧ ArgB F w (R o)) ∧
    (∀ o o' a a', o < xss.length → o' < xss.length → R o = some a → R o' = some a' → a.block = a'.block → o = o') ∧ ∀ o a c, o < xss.length → R o = some a → A = some c → a.block ≠ c.block
/-- What a law knows of a slice. -/
inductive Fc where
  | arg (A : Option Addr) (x : List Int)
  | ints (A : Option Addr) (x : List Int)
  | own (A : Option Addr) (x : List Int)
  | ss (A : Option Addr) (xss : List (List Int))
  | sso (A : Option Addr) (xss : List (List Int))
  | box (b : Nat) (vs : Array Value) (t : TypeId)
def Fc.holds (F : Nat → Prop) (w : World) : Fc → Prop
  | .arg A x => RdL (Value.int .i64) w A x ∧ ArgP F w A
  | .ints A x => RdL (Value.int .i64) w A x ∧ ArgB F w A
  | .own A x => OwnS (Value.int .i64) w 0 2 A x ∧ ArgB F w A
  | .ss A xss => SSr F w A xss
  | .sso A xss => SSr F w A xss ∧ SSo F w A xss
  | .box b vs t => F b ∧ w.heap[b]? = some (.cells vs t (0, 0))
/-- What is free stands. -/
def Stays (F : Nat → Prop) (w : World) (F' : Nat → Prop) (w' : World) : Prop := ∀ y, F y → F' y ∧ w'.heap[y]? = w.heap[y]?
section
variable {F F' : Nat → Prop} {w w' : World} {A : Option Addr} {x : List Int} {xss : List (List Int)}
theorem own_stay (h : OwnS (Value.int .i64) w 0 2 A x) (hs : ∀ a, A = some a → w'.heap[a.block]? = w.heap[a.block]?) : OwnS (Value.int .i64) w' 0 2 A x := fun hne => by
  obtain ⟨g, ex, e1, e2, e3⟩ := h hne
  exact ⟨g, ex, e1, e2, (hs _ e1).trans e3⟩
theorem SSr.stay (h : SSr F w A xss) (hs : Stays F w F' w') : SSr F' w' A xss := by
  obtain ⟨h1, h2⟩ := h
  refine ⟨argp_stay h1 hs, fun o ho => ?_⟩
  obtain ⟨C, k, R, cc, e1, e2, e3, e4⟩ := h2 o ho
  exact ⟨C, k, R, cc, e1, (cell_stay (a := ⟨C, k + o, none⟩) (hs _ (h1 _ e1).1).2).trans e2, (e4.elim (fun e4 => rdl_stay e3 fun r hr => (hs _ (e4 r hr).1).2) fun e5 => by rw [e5.1]; intro i hi; simp at hi), e4.imp_left fun e4 => argp_stay e4 hs⟩
theorem SSr.row (h : SSr F w A xss) {o : Nat} (ho : o < xss.length) {C k : Nat} {R : Option Addr} {n cc : Nat} (hA : A = some ⟨C, k, none⟩) (hc : w.cell? ⟨C, k + o, none⟩ = some (.slice R n cc)) : ArgP F w R ∨ (xss[o] = [] ∧ cc = 0) := by
  obtain ⟨C', k', R', cc', e1, e2, e3, e4⟩ := h.2 o ho
  rw [hA] at e1
  injection e1 with e1
  injection e1 with e1 e5
  subst e1; subst e5
  rw [hc] at e2
  injection e2 with e2
  injection e2 with e2 _ e6
  subst e2
  subst e6
  exact e4
theorem SSr.row0 (h : SSr F w A xss) {o : Nat} (ho : o < xss.length) {C : Nat} {R : Option Addr} {n cc : Nat} (hA : A = some ⟨C, 0, none⟩) (hc : w.cell? ⟨C, o, none⟩ = some (.slice R n cc)) : ArgP F w R ∨ (xss[o] = [] ∧ cc = 0) := h.row ho hA (by rw [Nat.zero_add]; exact hc)
theorem SSo.stay (h : SSo F w A xss) (hr : SSr F w A xss) (hs : Stays F w F' w') : SSo F' w' A xss := by
  obtain ⟨R, cc, h1, h2, h3⟩ := h
  refine ⟨R, cc, fun o ho => ?_, h2, h3⟩
  obtain ⟨C, e1, e2, e3, e4⟩ := h1 o ho
  exact ⟨C, e1, (cell_stay (a := ⟨C, o, none⟩) (hs _ (hr.1 _ e1).1).2).trans e2, own_stay e3 fun a ha => (hs _ (e4 a ha).1).2, argb_stay e4 hs⟩
theorem fc_stay {f : Fc} (h : f.holds F w) (hs : Stays F w F' w') : f.holds F' w' := by
  cases f with
  | arg A x => exact ⟨rdl_stay h.1 fun a ha => (hs _ (h.2 a ha).1).2, argp_stay h.2 hs⟩
  | ints A x => exact ⟨rdl_stay h.1 fun a ha => (hs _ (h.2 a ha).1).2, argb_stay h.2 hs⟩
  | own A x => exact ⟨own_stay h.1 fun a ha => (hs _ (h.2 a ha).1).2, argb_stay h.2 hs⟩
  | ss A xss => exact SSr.stay h hs
  | sso A xss => exact ⟨h.1.stay hs, h.2.stay h.1 hs⟩
  | box b vs t => exact ⟨(hs _ h.1).1, (hs _ h.1).2.trans h.2⟩
end
/-- What a law knows. -/
structure LF (l : List Fc) (F : Nat → Prop) (w : World) : Prop where
  low : ∀ y, F y → y < w.heap.size
  glob : Try.prog.globals.size ≤ w.heap.size
  fc : ∀ f ∈ l, f.holds F w
section
variable {l : List Fc} {F F' : Nat → Prop} {w w' : World}
theorem LF.rely (h : LF l F w) (r : RS No F w w') : LF l F w' :=
  ⟨fun y hy => Nat.lt_of_lt_of_le (h.low y hy) r.size, Nat.le_trans h.glob r.size, fun f hf => fc_stay (h.fc f hf) fun y hy => ⟨hy, r.own y hy⟩⟩
theorem LF.lk {own : List (Nat × Array Value × TypeId)} (h : LF l F w) (k : LK own F w F' w') : LF l F' w' :=
  ⟨k.low, Nat.le_trans h.glob k.size, fun f hf => fc_stay (h.fc f hf) fun y hy => ⟨k.sub y hy, k.old y hy⟩⟩
theorem LF.add {f : Fc} (h : LF l F w) (hf : f.holds F w) : LF (f :: l) F w := ⟨h.low, h.glob, fun x hx => by
  rcases List.mem_cons.1 hx with rfl | hx
  · exact hf
  · exact h.fc x hx⟩
theorem LF.sub {l' : List Fc} (h : LF l F w) (hs : ∀ f ∈ l', f ∈ l) : LF l' F w := ⟨h.low, h.glob, fun f hf => h.fc f (hs f hf)⟩
theorem LF.at {d : Nat} (h : LF l F (w.at d)) : LF l F w := ⟨h.low, h.glob, fun f hf => by
  have := h.fc f hf
  exact fc_stay (w := w.at d) (w' := w) this fun y hy => ⟨hy, rfl⟩⟩
end
/-! ### calls -/
section
variable {l : List Fc} {F : Nat → Prop} {w : World} {fs : FuncId → Bool} {cs : List Frame} {f : FuncId} {b₀ : Frame} {a₀ : Act} {ops₀ : Array Oper} {i₀ : Nat} {rest₀ : List Nat} {k₀ : List Item} {args : Array Value}
/-- A call that returns a plain value. -/
theorem call_val {u : Value} (h : LF l F w) (hu : noAddr u = true) (hO : ∀ f, fs f = true → ∃ fn, Try.prog.funcs[f]? = some fn ∧ fnOk Try.prog fs fn = true) (hf : fs f = true) (ha : ∀ x ∈ args, okV (fnsQ fs w F No) w.heap.size x = true)
    (hl : ∀ τ, Calls Try.prog f args { loneW (fnsQ fs w F No) w with tape := τ, drawn := 0 } fun e w' => e = .returned u) :
    GL Try.prog (fun t g w' => g = G (b₀.at (a₀.put ((ops₀[i₀]?).bind (·.dst)) u) (.inRegion ops₀ rest₀ :: k₀)) cs ∧ LK [] F w t w') F (G (Frame.enter Try.prog f args .normal) (b₀.at a₀ (.inRegion ops₀ (i₀ :: rest₀) :: k₀) :: cs)) w := by
  have h1 := gl_back (b₀ := b₀) (a₀ := a₀) (ops₀ := ops₀) (i₀ := i₀) (rest₀ := rest₀) (k₀ := k₀) (cs := cs) (fun b h => h.elim) (gl_call (P := Try.prog) (fs := fs) (v := w) (F := F) (W := No) (f := f) (args := args) (Q := fun v w' => v = u) (fun b h => h.elim) h.low zero_ok h.glob hO hf ha fun τ =>
    (hl τ).mono fun e w' he => by subst he; rfl)
  refine Go1.widen h1 ?_
  rintro t g w' ⟨s, rfl, ρ, u', wl, rfl, rfl, hok, hL⟩
  exact ⟨by rw [(noAddr_ok ρ (fnsQ fs w F No) wl.heap.size _ hu).1], lk_left h.low hL⟩
theorem okV_arg {A : Option Addr} {n c : Nat} (h : LF l F w) (hA : ArgP F w A) : okV (fnsQ fs w F No) w.heap.size (.slice A n c) = true := by
  cases A with
  | none => simp
  | some a =>
    rw [okV_sliceA _ _ _ _ (hA a rfl).2.2]
    exact fnsQ_ok h.low (hA a rfl).1 (hA a rfl).2.1
theorem okV_ss {A : Option Addr} {n c : Nat} {xss : List (List Int)} (h : LF l F w) (hA : SSr F w A xss) : okV (fnsQ fs w F No) w.heap.size (.slice A n c) = true := okV_arg h hA.1
theorem lone_rdl {A : Option Addr} {x : List Int} (h : LF l F w) (hx : RdL (Value.int .i64) w A x) (hA : ArgP F w A) : RdL (Value.int .i64) (loneW (fnsQ fs w F No) w) A x :=
  rdl_look hx (fun _ => by simp) fun b o _ e => ⟨rfl, fnsQ_old (h.low _ (hA _ e).1) (hA _ e).1 (hA _ e).2.1, fnsQ_no (h.low _ (hA _ e).1)⟩
theorem absV_empty {Fs : Fns} {B : Nat} (R : Option Addr) : ∃ R', absV Fs B (.slice R 0 0) = .slice R' 0 0 := by
  rw [absV_leaf (by intro cs h; cases h) (by intro cs h; cases h)]
  by_cases h : okV Fs B (.slice R 0 0) = true
  · exact ⟨R, by rw [if_pos h]⟩
  · rw [if_neg h]
    cases R with
    | none => exact absurd (by simp) h
    | some a => exact ⟨some (markA a), by simp [hideV]⟩
theorem loneW_any {Fs : Fns} {v : World} {a : Addr} {u : Value} (h : v.cell? a = some u) (hn : Fs.na a.block = false) (ha : Fs.al a.block = true) (hw : Fs.wr a.block = false) : (loneW Fs v).cell? a = some (absV Fs v.heap.size u) := by
  unfold World.cell? at h ⊢
  rw [loneW_get]
  cases hb : v.heap[a.block]? with
  | none => rw [hb] at h; cases h
  | some o =>
    rw [hb] at h
    cases o <;> first | (simp at h; done) | skip
    rename_i c e fr
    simp only at h
    by_cases hs : a.spot.isSome = true
    · rw [if_pos hs] at h; cases h
    · rw [if_neg hs] at h
      have : ¬ (c.size = 0 ∧ fr ≠ (0, 0)) := fun h' => by
        have := (Array.getElem?_eq_some_iff.1 h).1
        omega
      simp only [Option.map_some, hn, ha, if_true, if_false, Bool.false_eq_true, loneO, hw]
      rw [if_neg this]
      simp only [hs, if_false, Bool.false_eq_true]
      rw [Array.getElem?_map, h, Option.map_some]
theorem lone_ss {A : Option Addr} {xss : List (List Int)} (h : LF l F w) (hA : SSr F w A xss) : RdLL (loneW (fnsQ fs w F No) w) A xss := by
  intro o ho
  obtain ⟨C, k, R, cc, e1, e2, e3, e4⟩ := hA.2 o ho
  have hc := loneW_any (Fs := fnsQ fs w F No) (a := ⟨C, k + o, none⟩) e2 rfl (fnsQ_old (h.low _ (hA.1 _ e1).1) (hA.1 _ e1).1 (hA.1 _ e1).2.1) (fnsQ_no (h.low _ (hA.1 _ e1).1))
  rcases e4 with e4 | ⟨e4, rfl⟩
  · exact ⟨C, k, R, cc, e1, hc.trans (by rw [absV_same _ (okV_arg h e4)]), lone_rdl h e3 e4⟩
  · rw [e4] at hc
    obtain ⟨R', h'⟩ := absV_empty (Fs := fnsQ fs w F No) (B := w.heap.size) R
    exact ⟨C, k, R', 0, e1, by rw [e4]; exact hc.trans (congrArg some h'), by rw [e4]; intro i hi; simp at hi⟩
end
end Go.Proofs.Ytmmolicodlmlkaa.Ph
namespace Go.Proofs.Ytmmolicodlmlkaa.Ph
open Go.Conc Go.ConcN Go.RowKit Go.Conc.Lib Go.ConcR.Gen Go.ConcN.Gen
open Go.ConcR (KK wgBlock WgAt stA smA rd wr mk DC0 Payload)
open Go.Proofs.Ytmmolicodlmlkaa.Rel
set_option linter.unusedVariables false
set_option linter.unusedSimpArgs false

/-- The same but for the memory. -/
def TW (W w : World) : Prop := w.tape = W.tape ∧ w.os = W.os ∧ w.output = W.output
theorem TW.trans {a b c : World} (h : TW a b) (k : TW b c) : TW a c := ⟨k.1.trans h.1, k.2.1.trans h.2.1, k.2.2.trans h.2.2⟩
/-- What a law knows: what it reads lies in F, all that there was at its start too; what is its own lies in blocks apart; all of it is free. -/
structure LH (W₀ : World) (l : List Fc) (F : Nat → Prop) (own : List ((Nat → Prop) × Fc)) (S : Nat → Prop) (w : World) : Prop where
  tw : TW W₀ w
  old : ∀ y, y < W₀.heap.size → F y ∧ w.heap[y]? = W₀.heap[y]?
  low : ∀ y, S y → y < w.heap.size
  glob : Try.prog.globals.size ≤ w.heap.size
  fc : ∀ f ∈ l, f.holds F w
  sub : ∀ y, F y → S y
  ow : ∀ p ∈ own, p.2.holds p.1 w ∧ (∀ y, p.1 y → S y) ∧ ∀ y, F y → ¬ p.1 y
  dis : own.Pairwise fun p q => ∀ y, p.1 y → ¬ q.1 y
section
variable {W₀ : World} {l : List Fc} {F S S' : Nat → Prop} {own : List ((Nat → Prop) × Fc)} {w w' : World}
theorem LH.stay (h : LH W₀ l F own S w) (hs : Stays S w S' w') (hl : ∀ y, S' y → y < w'.heap.size) (hz : w.heap.size ≤ w'.heap.size) (ht : TW w w') : LH W₀ l F own S' w' :=
  ⟨h.tw.trans ht, fun y hy => ⟨(h.old y hy).1, (hs y (h.sub y (h.old y hy).1)).2.trans (h.old y hy).2⟩, hl, Nat.le_trans h.glob hz, fun f hf => fc_stay (h.fc f hf) fun y hy => ⟨hy, (hs y (h.sub y hy)).2⟩, fun y hy => (hs y (h.sub y hy)).1,
    fun p hp => ⟨fc_stay (h.ow p hp).1 fun y hy => ⟨hy, (hs y ((h.ow p hp).2.1 y hy)).2⟩, fun y hy => (hs y ((h.ow p hp).2.1 y hy)).1, (h.ow p hp).2.2⟩, h.dis⟩
theorem LH.rely (h : LH W₀ l F own S w) (r : RS No S w w') : LH W₀ l F own S w' := h.stay (fun y hy => ⟨hy, r.own y hy⟩) (fun y hy => Nat.lt_of_lt_of_le (h.low y hy) r.size) r.size ⟨r.tape, r.os, r.output⟩
theorem LH.lk {o : List (Nat × Array Value × TypeId)} (h : LH W₀ l F own S w) (k : LK o S w S' w') : LH W₀ l F own S' w' := h.stay (fun y hy => ⟨k.sub y hy, k.old y hy⟩) k.low k.size ⟨k.tape, k.os, k.output⟩
theorem LH.at {d : Nat} (h : LH W₀ l F own S (w.at d)) : LH W₀ l F own S w := h.stay (fun y hy => ⟨hy, rfl⟩) h.low (Nat.le_refl _) ⟨rfl, rfl, rfl⟩
theorem LH.grow {s s' : Loc → Prop} (h : LH W₀ l F own (FreeB s w) w) (g : Grow s w s' w') : LH W₀ l F own (FreeB s' w') w' := h.stay (fun y hy => g.old y hy) (fun y hy => hy.1) g.size ⟨g.tape, g.os, g.output⟩
theorem LH.lf (h : LH W₀ l F own S w) : LF [] S w := ⟨h.low, h.glob, by simp⟩
theorem LH.base {f : Fc} (h : LH W₀ l F own S w) (hf : f ∈ l) : f.holds S w := fc_stay (h.fc f hf) fun y hy => ⟨h.sub y hy, rfl⟩
theorem LH.mine {p : (Nat → Prop) × Fc} (h : LH W₀ l F own S w) (hp : p ∈ own) : p.2.holds S w := fc_stay (h.ow p hp).1 fun y hy => ⟨(h.ow p hp).2.1 y hy, rfl⟩
/-- All that is free may be more. -/
theorem LH.wide (h : LH W₀ l F own S w) (hs : ∀ y, S y → S' y) (hl : ∀ y, S' y → y < w.heap.size) : LH W₀ l F own S' w := h.stay (fun y hy => ⟨hs y hy, rfl⟩) hl (Nat.le_refl _) ⟨rfl, rfl, rfl⟩
/-- Something new that is its own. -/
theorem LH.addOwn {p : (Nat → Prop) × Fc} (h : LH W₀ l F own S w) (hp : p.2.holds p.1 w) (hS : ∀ y, p.1 y → S y) (hn : ∀ y, F y → ¬ p.1 y) (hd : ∀ q ∈ own, ∀ y, q.1 y → ¬ p.1 y) : LH W₀ l F (p :: own) S w :=
  ⟨h.tw, h.old, h.low, h.glob, h.fc, h.sub, fun q hq => by
    rcases List.mem_cons.1 hq with rfl | hq
    · exact ⟨hp, hS, hn⟩
    · exact h.ow q hq, List.Pairwise.cons (fun q hq y hy hq' => hd q hq y hq' hy) h.dis⟩
/-- Something new that is read. -/
theorem LH.addBase {f : Fc} {N : Nat → Prop} (h : LH W₀ l F own S w) (hf : f.holds N w) (hS : ∀ y, N y → S y) (hd : ∀ q ∈ own, ∀ y, q.1 y → ¬ N y) : LH W₀ (f :: l) (fun y => F y ∨ N y) own S w :=
  ⟨h.tw, fun y hy => ⟨.inl (h.old y hy).1, (h.old y hy).2⟩, h.low, h.glob, fun x hx => by
    rcases List.mem_cons.1 hx with rfl | hx
    · exact fc_stay hf fun y hy => ⟨.inr hy, rfl⟩
    · exact fc_stay (h.fc x hx) fun y hy => ⟨.inl hy, rfl⟩, fun y hy => hy.elim (h.sub y) (hS y), fun p hp => ⟨(h.ow p hp).1, (h.ow p hp).2.1, fun y hy hp' => hy.elim (fun hy => (h.ow p hp).2.2 y hy hp') fun hy => hd p hp y hp' hy⟩, h.dis⟩
/-- The first is given up or has been turned. -/
theorem LH.turn {p : (Nat → Prop) × Fc} (h : LH W₀ l F (p :: own) S w) (hs : ∀ y, S y → ¬ p.1 y → S' y ∧ w'.heap[y]? = w.heap[y]?) (hl : ∀ y, S' y → y < w'.heap.size) (hz : w.heap.size ≤ w'.heap.size) (ht : TW w w') : LH W₀ l F own S' w' := by
  have hp := h.ow p (by simp)
  have hd := h.dis
  rw [List.pairwise_cons] at hd
  have key : ∀ q ∈ own, ∀ y, q.1 y → ¬ p.1 y := fun q hq y hy hy' => hd.1 q hq y hy' hy
  exact ⟨h.tw.trans ht, fun y hy => ⟨(h.old y hy).1, (hs y (h.sub y (h.old y hy).1) (hp.2.2 y (h.old y hy).1)).2.trans (h.old y hy).2⟩, hl, Nat.le_trans h.glob hz, fun f hf => fc_stay (h.fc f hf) fun y hy => ⟨hy, (hs y (h.sub y hy) (hp.2.2 y hy)).2⟩, fun y hy => (hs y (h.sub y hy) (hp.2.2 y hy)).1,
    fun q hq => ⟨fc_stay (h.ow q (by simp [hq])).1 fun y hy => ⟨hy, (hs y ((h.ow q (by simp [hq])).2.1 y hy) (key q hq y hy)).2⟩, fun y hy => (hs y ((h.ow q (by simp [hq])).2.1 y hy) (key q hq y hy)).1, (h.ow q (by simp [hq])).2.2⟩, hd.2⟩
theorem LH.drop {p : (Nat → Prop) × Fc} (h : LH W₀ l F (p :: own) S w) : LH W₀ l F own S w := h.turn (fun y hy _ => ⟨hy, rfl⟩) h.low (Nat.le_refl _) ⟨rfl, rfl, rfl⟩
theorem LH.below (h : LH W₀ l F own S w) : Below W₀.heap.size W₀ w :=
  ⟨h.tw.2.1, h.tw.1, h.tw.2.2, by
    rcases Nat.eq_zero_or_pos W₀.heap.size with h0 | h0
    · omega
    · have := h.low _ (h.sub _ (h.old (W₀.heap.size - 1) (by omega)).1); omega, fun y hy => (h.old y hy).2⟩
/-- A copy of numbers, just made. -/
theorem LH.copy {g0 : Nat} {x : List Int} (h : LH W₀ l F own S w) (k : LK [(g0, (x.map (Value.int .i64)).toArray, 2)] S w S' w') : LH W₀ l F (((fun y => y = g0), .own (some ⟨g0, 0, none⟩) x) :: own) S' w' := by
  obtain ⟨h1, h2, h3⟩ := k.own (g0, (x.map (Value.int .i64)).toArray, 2) (by simp)
  simp only at h1 h2 h3
  refine (h.lk k).addOwn ⟨fun hne => ⟨g0, [], rfl, Nat.zero_le _, by simpa [Blk] using h3⟩, fun a ha => ?_⟩ (fun y hy => by subst hy; exact h1) (fun y hy e => ?_) fun q hq y hy e => ?_
  · obtain rfl := Option.some.inj ha
    exact ⟨rfl, ⟨_, _, h3, fun v hv => by simp at hv; obtain ⟨i, _, rfl⟩ := hv; exact ⟨i, rfl⟩⟩, rfl⟩
  · subst e; have := h.low _ (h.sub _ hy); omega
  · subst e; have := h.low _ ((h.ow q hq).2.1 _ hy); omega
end
section
variable {W₀ : World} {l : List Fc} {F S : Nat → Prop} {own : List ((Nat → Prop) × Fc)} {w : World} {cs : List Frame} {b₀ : Frame} {a₀ : Act} {ops₀ : Array Oper} {i₀ : Nat} {rest₀ : List Nat} {k₀ : List Item}
def eqFs : FuncId → Bool := fun f => [15, 20, 17, 22, 16, 21].contains f
theorem eqOk1 : fnOk Try.prog eqFs Try.f15 = true := by kernel_rfl
theorem eqOk2 : fnOk Try.prog eqFs Try.f20 = true := by kernel_rfl
theorem eqOk3 : fnOk Try.prog eqFs Try.f17 = true := by kernel_rfl
theorem eqOk4 : fnOk Try.prog eqFs Try.f22 = true := by kernel_rfl
theorem eqOk5 : fnOk Try.prog eqFs Try.f16 = true := by kernel_rfl
theorem eqOk6 : fnOk Try.prog eqFs Try.f21 = true := by kernel_rfl
theorem eqFs_ok : ∀ f, eqFs f = true → ∃ fn, Try.prog.funcs[f]? = some fn ∧ fnOk Try.prog eqFs fn = true := by
  intro f hf
  simp [eqFs] at hf
  rcases hf with rfl | rfl | rfl | rfl | rfl | rfl
  · exact ⟨_, Try.func15, eqOk1⟩
  · exact ⟨_, Try.func20, eqOk2⟩
  · exact ⟨_, Try.func17, eqOk3⟩
  · exact ⟨_, Try.func22, eqOk4⟩
  · exact ⟨_, Try.func16, eqOk5⟩
  · exact ⟨_, Try.func21, eqOk6⟩
/-- eqInt64S of two slices that read alike. -/
theorem eqI_gl {A A' : Option Addr} {c c' : Nat} {x : List Int} (h : LF [] S w) (h1 : RdL (Value.int .i64) w A x) (h1' : ArgB S w A) (h2 : RdL (Value.int .i64) w A' x) (h2' : ArgB S w A') (hn : x.length ≤ 1048576) :
    GL Try.prog (fun t g w' => g = G (b₀.at (a₀.put ((ops₀[i₀]?).bind (·.dst)) (.bool true)) (.inRegion ops₀ rest₀ :: k₀)) cs ∧ LK [] S w t w') S (G (Frame.enter Try.prog 15 #[.slice A x.length c, .slice A' x.length c'] .normal) (b₀.at a₀ (.inRegion ops₀ (i₀ :: rest₀) :: k₀) :: cs)) w :=
  call_val (fs := eqFs) h (by simp [noAddr]) eqFs_ok rfl (by
    intro z hz
    simp at hz
    rcases hz with rfl | rfl
    · exact okV_arg h h1'.p
    · exact okV_arg h h2'.p) fun τ =>
      (eqInt64S_any A A' c c' x x { loneW (fnsQ eqFs w S No) w with tape := τ, drawn := 0 } (lone_rdl h h1 h1'.p) (lone_rdl h h2 h2'.p) hn).mono fun e w' he => by rw [he.1]; simp
theorem eqSS_gl {A A' : Option Addr} {c c' : Nat} {xss : List (List Int)} (h : LF [] S w) (h1 : SSr S w A xss) (h2 : SSr S w A' xss) (hn : xss.length ≤ 1048576) (hl : ∀ e ∈ xss, e.length ≤ 1048576) :
    GL Try.prog (fun t g w' => g = G (b₀.at (a₀.put ((ops₀[i₀]?).bind (·.dst)) (.bool true)) (.inRegion ops₀ rest₀ :: k₀)) cs ∧ LK [] S w t w') S (G (Frame.enter Try.prog 20 #[.slice A xss.length c, .slice A' xss.length c'] .normal) (b₀.at a₀ (.inRegion ops₀ (i₀ :: rest₀) :: k₀) :: cs)) w :=
  call_val (fs := eqFs) h (by simp [noAddr]) eqFs_ok rfl (by
    intro z hz
    simp at hz
    rcases hz with rfl | rfl
    · exact okV_ss h h1
    · exact okV_ss h h2) fun τ =>
      (eqInt64SS_yes A A' c c' xss { loneW (fnsQ eqFs w S No) w with tape := τ, drawn := 0 } (lone_ss h h1) (lone_ss h h2) hn hl).mono fun e w' he => he.1
theorem heldSS_gl {A : Option Addr} {c : Nat} {xss : List (List Int)} {q : Int} (h : LF [] S w) (h1 : SSr S w A (marksLL q xss)) (hn : xss.length ≤ 1048576) (hl : ∀ e ∈ xss, e.length ≤ 1048576) (hq0 : 0 ≤ q) (hq1 : q + sumLL xss ≤ 1000000000) :
    GL Try.prog (fun t g w' => g = G (b₀.at (a₀.put ((ops₀[i₀]?).bind (·.dst)) (.int .i64 (q + sumLL xss))) (.inRegion ops₀ rest₀ :: k₀)) cs ∧ LK [] S w t w') S (G (Frame.enter Try.prog 22 #[.slice A xss.length c, .int .i64 q] .normal) (b₀.at a₀ (.inRegion ops₀ (i₀ :: rest₀) :: k₀) :: cs)) w :=
  call_val (fs := eqFs) h (by simp [noAddr]) eqFs_ok rfl (by
    intro z hz
    simp at hz
    rcases hz with rfl | rfl
    · exact okV_ss h h1
    · simp) fun τ =>
      (heldInt64SS_yes A c xss q { loneW (fnsQ eqFs w S No) w with tape := τ, drawn := 0 } (lone_ss h h1) hn hl hq0 hq1).mono fun e w' he => he.1
end
end Go.Proofs.Ytmmolicodlmlkaa.Ph
namespace Go.Proofs.Ytmmolicodlmlkaa.Ph
open Go.Conc Go.ConcN Go.RowKit Go.Conc.Lib Go.ConcR.Gen Go.ConcN.Gen
open Go.ConcR (KK wgBlock WgAt stA smA rd wr mk DC0 Payload)
open Go.Proofs.Ytmmolicodlmlkaa.Rel
set_option linter.unusedVariables false
set_option linter.unusedSimpArgs false

section
variable {W₀ : World} {l : List Fc} {F S G' W : Nat → Prop} {own : List ((Nat → Prop) × Fc)} {w wl w' : World} {cs : List Frame} {b₀ : Frame} {a₀ : Act} {ops₀ : Array Oper} {i₀ : Nat} {rest₀ : List Nat} {k₀ : List Item} {A : Option Addr} {c : Nat} {x : List Int} {q : Int} {xss : List (List Int)}
theorem fnsQ_wr {fs : FuncId → Bool} {y : Nat} (hy : y < w.heap.size) (h : W y) : (fnsQ fs w S W).wr y = true := by
  classical
  simp only [fnsQ, fnsOf, hy, if_true, decide_eq_true_eq]
  exact h
theorem fnsQ_rd {fs : FuncId → Bool} {y : Nat} (hy : y < w.heap.size) (h : ¬ W y) : (fnsQ fs w S W).wr y = false := by
  classical
  simp only [fnsQ, fnsOf, hy, if_true, decide_eq_false_iff_not]
  exact h
/-- A block of numbers that may be written, in the lone world. -/
theorem lone_own {fs : FuncId → Bool} {y : Nat} (hl : ∀ y, S y → y < w.heap.size) (hS : S y) (hW : W y) (hI : Ints w y) : (loneW (fnsQ fs w S W) w).heap[y]? = w.heap[y]? := by
  obtain ⟨c, e, h1, h2⟩ := hI
  rw [loneW_own h1 rfl (fnsQ_old (hl y hS) hS (by rw [h1]; rfl)) (fnsQ_wr (hl y hS) hW) (fun z hz => by obtain ⟨i, rfl⟩ := h2 z hz; simp), h1]
theorem left_state {fs : FuncId → Bool} {P : Program} {s : Nat → Prop} {ρ : Rn} (hsub : ∀ y, W y → S y) (hl : ∀ y, S y → y < w.heap.size) (hL : Rel.Left P (fnsQ fs w S W) w (fun b => S b ∧ ¬ W b) W ρ wl s w') :
    (∀ y, S y → ((S y ∧ ¬ W y) ∨ s y)) ∧ (∀ y, ((S y ∧ ¬ W y) ∨ s y) → y < w'.heap.size) ∧ w.heap.size ≤ w'.heap.size ∧ ∀ y, S y → ¬ W y → w'.heap[y]? = w.heap[y]? := by
  refine ⟨fun y hy => ?_, fun y hy => ?_, hL.size, fun y hy hn => hL.rd y ⟨hy, hn⟩⟩
  · by_cases hw : W y
    · exact .inr ((hL.mine y).2 (.inl hw))
    · exact .inl ⟨hy, hw⟩
  · rcases hy with hy | hy
    · exact Nat.lt_of_lt_of_le (hl y hy.1) hL.size
    · exact left_low hL (fun b hb => (fnsQ_new hb).1) (fun b hb => hl b (hsub b hb)) hy
/-- markInt64S of a slice of its own, which is given up. -/
theorem mark_gl (h : LH W₀ l F ((G', .own A x) :: own) S w) (hn : x.length ≤ 1048576) (hq0 : 0 ≤ q) (hq1 : q ≤ 1073741824) :
    GL Try.prog (fun t g w' => g = G (b₀.at (a₀.put ((ops₀[i₀]?).bind (·.dst)) (.int .i64 (q + x.length))) (.inRegion ops₀ rest₀ :: k₀)) cs ∧ LH W₀ l F own t w') S (G (Frame.enter Try.prog 16 #[.slice A x.length c, .int .i64 q] .normal) (b₀.at a₀ (.inRegion ops₀ (i₀ :: rest₀) :: k₀) :: cs)) w := by
  obtain ⟨⟨o1, o2⟩, hGS, _⟩ := h.ow _ (List.mem_cons_self)
  let W : Nat → Prop := fun y => ∃ a, A = some a ∧ a.block = y
  have hWG : ∀ y, W y → G' y := fun y ⟨a, ha, e⟩ => e ▸ (o2 a ha).1
  have hsub : ∀ y, W y → S y := fun y hy => hGS y (hWG y hy)
  have h1 := gl_back (b₀ := b₀) (a₀ := a₀) (ops₀ := ops₀) (i₀ := i₀) (rest₀ := rest₀) (k₀ := k₀) (cs := cs) hsub (gl_call (P := Try.prog) (fs := eqFs) (v := w) (F := S) (W := W) (f := 16) (args := #[.slice A x.length c, .int .i64 q]) (Q := fun v w' => v = .int .i64 (q + x.length)) hsub h.low zero_ok h.glob eqFs_ok rfl
    (by
      intro z hz
      simp at hz
      rcases hz with rfl | rfl
      · cases A with
        | none => simp
        | some a =>
          rw [okV_sliceA _ _ _ _ (o2 a rfl).2.2]
          exact fnsQ_ok h.low (hsub _ ⟨a, rfl, rfl⟩) (o2 a rfl).2.plain
      · simp)
    fun τ => (markInt64S_any A c 0 x q { loneW (fnsQ eqFs w S W) w with tape := τ, drawn := 0 } (fun hne => by
      obtain ⟨g, ex, e1, e2, e3⟩ := o1 hne
      exact ⟨g, ex, e1, e2, (lone_own h.low (hsub _ ⟨_, e1, rfl⟩) ⟨_, e1, rfl⟩ (o2 _ e1).2.1).trans e3⟩) hn hq0 hq1).mono fun e w' he => by rw [he.1])
  refine Go1.widen h1 ?_
  rintro t g w' ⟨s, rfl, ρ, u', wl, rfl, rfl, hok, hL⟩
  obtain ⟨p1, p2, p3, p4⟩ := left_state hsub h.low hL
  exact ⟨by simp, h.turn (fun y hy hn => ⟨p1 y hy, p4 y hy fun hw => hn (hWG y hw)⟩) p2 p3 ⟨hL.tape, hL.os, hL.output⟩⟩
set_option maxHeartbeats 400000 in
theorem markSS_nil (A : Option Addr) (c : Nat) (q : Int) (w : World) : Calls Try.prog 21 #[.slice A 0 c, .int .i64 q] w fun e w' => e = .returned (.int .i64 q) ∧ w = w' := by
  go_enter Try.func21, Try.ntmps21
  go_wp2
  go_loop [1, 5] (fun t j => j = .int .i64 (0 : Nat) ∧ t = .int .i64 q) (fun _ j => 1)
  case atStart => exact ⟨rfl, rfl⟩
  case round =>
    obtain ⟨rfl, rfl⟩ := hrel
    go_wp2
    go_ret
    exact ⟨rfl, rfl⟩
theorem ssr_nil (h : SSr S w A xss) (h0 : xss = []) : SSr S w A [] := by subst h0; exact h
/-- markInt64SS of rows of its own. -/
theorem markSS_gl (h : LH W₀ l F ((G', .sso A xss) :: own) S w) (hn : xss.length ≤ 1048576) (hl : ∀ e ∈ xss, e.length ≤ 1048576) (hq0 : 0 ≤ q) (hq1 : q + sumLL xss ≤ 1000000000) :
    GL Try.prog (fun t g w' => g = G (b₀.at (a₀.put ((ops₀[i₀]?).bind (·.dst)) (.int .i64 (q + sumLL xss))) (.inRegion ops₀ rest₀ :: k₀)) cs ∧ LH W₀ l F ((G', .sso A (marksLL q xss)) :: own) t w') S (G (Frame.enter Try.prog 21 #[.slice A xss.length c, .int .i64 q] .normal) (b₀.at a₀ (.inRegion ops₀ (i₀ :: rest₀) :: k₀) :: cs)) w := by
  obtain ⟨⟨hr, ho⟩, hGS, hFG⟩ := h.ow _ (List.mem_cons_self)
  by_cases hx0 : xss = []
  · subst hx0
    refine Go1.widen (call_val (fs := eqFs) (b₀ := b₀) (a₀ := a₀) (ops₀ := ops₀) (i₀ := i₀) (rest₀ := rest₀) (k₀ := k₀) (cs := cs) (u := .int .i64 q) h.lf (by simp [noAddr]) eqFs_ok (f := 21) rfl (by
      intro z hz
      simp at hz
      rcases hz with rfl | rfl
      · exact okV_ss h.lf (h.mine (p := (G', .sso A [])) (by simp)).1
      · simp) fun τ => (markSS_nil A c q _).mono fun e w' he => he.1) ?_
    rintro t g w' ⟨rfl, hK⟩
    exact ⟨by simp [sumLL], by simpa [marksLL] using h.lk hK⟩
  have hpos : 0 < xss.length := List.length_pos_iff.2 hx0
  obtain ⟨R, cc, s1, s2, s3⟩ := ho
  obtain ⟨C, rfl, _, _⟩ := s1 0 hpos
  have s1' : ∀ o (ho : o < xss.length), w.cell? ⟨C, o, none⟩ = some (.slice (R o) xss[o].length (cc o)) ∧ OwnS (Value.int .i64) w 0 2 (R o) xss[o] ∧ ArgB G' w (R o) := fun o ho => by
    obtain ⟨C', e1, e2, e3⟩ := s1 o ho
    injection e1 with e1
    injection e1 with e1
    subst e1
    exact ⟨e2, e3⟩
  have hrow : ∀ o a, o < xss.length → R o = some a → G' a.block ∧ IntsA w a := fun o a ho ha => (s1' o ho).2.2 a ha
  obtain ⟨gC, hCp⟩ := hr.1 _ rfl
  simp only at gC
  replace hCp := hCp.1
  simp only at hCp
  have s3' : ∀ o a, o < xss.length → R o = some a → a.block ≠ C := fun o a ho ha => s3 o a _ ho ha rfl
  let W : Nat → Prop := fun y => ∃ o a, o < xss.length ∧ R o = some a ∧ a.block = y
  have hWG : ∀ y, W y → G' y := fun y ⟨o, a, h1, h2, e⟩ => e ▸ (hrow o a h1 h2).1
  have hsub : ∀ y, W y → S y := fun y hy => hGS y (hWG y hy)
  have hCW : ¬ W C := fun ⟨o, a, h1, h2, e⟩ => s3' o a h1 h2 e
  have hSC := hGS C gC
  have hloneC : ∀ o (ho : o < xss.length), (loneW (fnsQ eqFs w S W) w).cell? ⟨C, o, none⟩ = some (.slice (R o) xss[o].length (cc o)) := fun o ho =>
    loneW_at (a := ⟨C, o, none⟩) (s1' o ho).1 rfl (fnsQ_old (h.low _ hSC) hSC hCp) (fnsQ_rd (h.low _ hSC) hCW) (by
      cases hR : R o with
      | none => simp
      | some a =>
        rw [okV_sliceA _ _ _ _ (hrow o a ho hR).2.2]
        exact fnsQ_ok h.low (hGS _ (hrow o a ho hR).1) (hrow o a ho hR).2.plain)
  have hloneR : ∀ o a, o < xss.length → R o = some a → (loneW (fnsQ eqFs w S W) w).heap[a.block]? = w.heap[a.block]? := fun o a h1 h2 => lone_own h.low (hsub _ ⟨o, a, h1, h2, rfl⟩) ⟨o, a, h1, h2, rfl⟩ (hrow o a h1 h2).2.1
  let Q : Value → World → Prop := fun v w' => v = .int .i64 (q + sumLL xss) ∧ ∃ τ, MkLL { loneW (fnsQ eqFs w S W) w with tape := τ, drawn := 0 } C R cc xss.length (marksLL q xss) w'
  have h1 := gl_back (b₀ := b₀) (a₀ := a₀) (ops₀ := ops₀) (i₀ := i₀) (rest₀ := rest₀) (k₀ := k₀) (cs := cs) hsub (gl_call (P := Try.prog) (fs := eqFs) (v := w) (F := S) (W := W) (f := 21) (args := #[.slice (some ⟨C, 0, none⟩) xss.length c, .int .i64 q]) (Q := Q) hsub h.low zero_ok h.glob eqFs_ok rfl
    (by
      intro z hz
      simp at hz
      rcases hz with rfl | rfl
      · rw [okV_slice]
        exact fnsQ_ok h.low hSC hCp
      · simp)
    fun τ => (markInt64SS_any C c R cc xss q { loneW (fnsQ eqFs w S W) w with tape := τ, drawn := 0 } ⟨fun o ho => ⟨xss[o], List.getElem?_eq_getElem ho, hloneC o ho, fun hne => by
        obtain ⟨g, ex, e1, e2, e3⟩ := (s1' o ho).2.1 hne
        exact ⟨g, ex, e1, e2, (hloneR o _ ho e1).trans e3⟩⟩, fun o a ho ha => (hrow o a ho ha).2.1.stay (hloneR o a ho ha), fun _ _ => rfl, rfl⟩ s2 s3' hn hl hq0 hq1).mono fun e w' he => by rw [he.1]; exact ⟨rfl, τ, he.2⟩)
  refine Go1.widen h1 ?_
  rintro t g w' ⟨s, rfl, ρ, u', wl, rfl, ⟨rfl, τ, hM⟩, hok, hL⟩
  obtain ⟨p1, p2, p3, p4⟩ := left_state hsub h.low hL
  have hrest := h.turn (w' := w') (S' := fun b => (S b ∧ ¬ W b) ∨ s b) (fun y hy hn => ⟨p1 y hy, p4 y hy fun hw => hn (hWG y hw)⟩) p2 p3 ⟨hL.tape, hL.os, hL.output⟩
  have hCs : w'.heap[C]? = w.heap[C]? := p4 C hSC hCW
  have hcs : ∀ o, w'.cell? ⟨C, o, none⟩ = w.cell? ⟨C, o, none⟩ := fun o => cell_stay (a := ⟨C, o, none⟩) hCs
  have alR : ∀ o a, o < xss.length → R o = some a → (fnsQ eqFs w S W).al a.block = true ∧ ρ.f a.block = a.block := fun o a h1 h2 =>
    ⟨fnsQ_old (h.low _ (hGS _ (hrow o a h1 h2).1)) (hGS _ (hrow o a h1 h2).1) (hrow o a h1 h2).2.plain, hL.id _ (h.low _ (hGS _ (hrow o a h1 h2).1))⟩
  have intsR : ∀ o a, o < xss.length → R o = some a → IntsA w' a := fun o a h1 h2 => by
    have := left_ints hL (alR o a h1 h2).1 (hM.ints o a h1 h2)
    rw [(alR o a h1 h2).2] at this
    exact ⟨this, (hrow o a h1 h2).2.2⟩
  have ownR : ∀ o (ho : o < (marksLL q xss).length), w'.cell? ⟨C, o, none⟩ = some (.slice (R o) (marksLL q xss)[o].length (cc o)) ∧ OwnS (Value.int .i64) w' 0 2 (R o) (marksLL q xss)[o] := fun o ho => by
    have ho' : o < xss.length := by rw [marksLL_length] at ho; exact ho
    obtain ⟨y, y1, y2, y3⟩ := hM.cell o ho'
    have hy : (marksLL q xss)[o] = y := by rw [List.getElem?_eq_getElem ho] at y1; exact Option.some.inj y1
    have hlen : y.length = xss[o].length := by
      rw [marksLL_at q xss o ho'] at y1
      obtain rfl := Option.some.inj y1
      exact marks_length _ _ _
    rw [hy, hlen]
    refine ⟨(hcs o).trans (s1' o ho').1, fun hne => ?_⟩
    obtain ⟨g, ex, e1, e2, e3⟩ := y3 hne
    have h4 := (left_blk hL (alR o _ ho' e1).1 e3).1
    simp only at h4
    rw [(alR o _ ho' e1).2] at h4
    refine ⟨g, ex.map (ren ρ), e1, e2, ?_⟩
    unfold Blk
    rw [h4]
    simp only [List.map_toArray, List.map_append, List.map_map]
    congr 4
    exact List.map_congr_left fun z _ => by simp
  refine ⟨by simp, hrest.addOwn (p := (G', .sso (some ⟨C, 0, none⟩) (marksLL q xss))) ⟨⟨fun a ha => ?_, fun o ho => ⟨C, 0, R o, cc o, rfl, by rw [Nat.zero_add]; exact (ownR o ho).1, (ownR o ho).2.rd, .inl fun r hr' => ?_⟩⟩, R, cc, fun o ho => ⟨C, rfl, (ownR o ho).1, (ownR o ho).2, fun r hr' => ⟨(hrow o r (by rw [marksLL_length] at ho; exact ho) hr').1, intsR o r (by rw [marksLL_length] at ho; exact ho) hr'⟩⟩, fun o o' a a' h1 h2 => s2 o o' a a' (by rw [marksLL_length] at h1; exact h1) (by rw [marksLL_length] at h2; exact h2), fun o a c h1 => s3 o a c (by rw [marksLL_length] at h1; exact h1)⟩ (fun y hy => p1 y (hGS y hy)) hFG fun q' hq y hy hy' => (List.pairwise_cons.1 h.dis).1 q' hq y hy' hy⟩
  · obtain rfl := Option.some.inj ha
    exact ⟨gC, by simp only; rw [hCs]; exact hCp, rfl⟩
  · have ho' : o < xss.length := by rw [marksLL_length] at ho; exact ho
    exact ⟨(hrow o r ho' hr').1, (intsR o r ho' hr').plz⟩
end
end Go.Proofs.Ytmmolicodlmlkaa.Ph
namespace Go.Proofs.Ytmmolicodlmlkaa.Ph
open Go.Conc Go.ConcN Go.RowKit Go.Conc.Lib Go.ConcR.Gen Go.ConcN.Gen
open Go.ConcR (KK wgBlock WgAt stA smA rd wr mk DC0 Payload)
open Go.Proofs.Ytmmolicodlmlkaa.Rel
set_option linter.unusedVariables false
set_option linter.unusedSimpArgs false

noncomputable def lt1 : Code := match Try.f13.body with | some (.seq _ (.seq _ (.seq (.seq _ (.block _ (.loop c))) _))) => c | _ => .skip
noncomputable def lt2 : Code := match Try.f13.body with | some (.seq _ (.seq _ (.seq _ c))) => c | _ => .skip
/-- The copy, k of whose cells are laid. -/
def cellsT (x : List Int) (k : Nat) : Array Value := ((x.take k).map (Value.int .i64) ++ List.replicate (x.length - k) (Value.int .i64 0)).toArray
theorem cellsT_zero (x : List Int) : madeCells #[.int .i64 0] x.length = cellsT x 0 := by simp [cellsT, madeCells_one]
theorem cellsT_all (x : List Int) : cellsT x x.length = (x.map (Value.int .i64)).toArray := by simp [cellsT]
theorem cellsT_size (x : List Int) (k : Nat) (h : k ≤ x.length) : (cellsT x k).size = x.length := by simp [cellsT]; omega
theorem cellsT_step (x : List Int) (k : Nat) (h : k < x.length) : (cellsT x k).setIfInBounds k (.int .i64 x[k]) = cellsT x (k + 1) := by
  apply Array.ext'
  simp only [cellsT, List.setIfInBounds_toArray]
  rw [List.set_append_right _ _ (by simp; omega)]
  simp only [List.length_map, List.length_take, Nat.min_eq_left (Nat.le_of_lt h), Nat.sub_self]
  obtain ⟨d, hd⟩ : ∃ d, x.length - k = d + 1 := ⟨x.length - k - 1, by omega⟩
  rw [hd, show x.length - (k + 1) = d by omega, List.replicate_succ, List.set_cons_zero, List.take_add_one, List.getElem?_eq_getElem h]
  simp only [Option.toList_some, List.map_append, List.map_cons, List.map_nil, List.append_assoc, List.singleton_append]
section
variable {F : Nat → Prop} {w : World} {A : Option Addr} {c : Nat} {x : List Int} {cs : List Frame} {b₀ : Frame} {a₀ : Act} {ops₀ : Array Oper} {i₀ : Nat} {rest₀ : List Nat} {k₀ : List Item}
set_option maxRecDepth 100000 in
set_option maxHeartbeats 4000000 in
theorem toI_loop (hA : ∀ a, A = some a → F a.block) (hx : RdL (Value.int .i64) w A x) (hn : x.length ≤ 1048576) (g0 : Nat) :
    ∀ (m k : Nat), x.length ≤ k + m → k ≤ x.length → ∀ (S : Nat → Prop) (w' : World) (v8 v9 v10 v11 v12 v13 v14 v15 v16 v17 v18 v19 v20 v21 v22 v23 v24 v25 : Value), LK [(g0, cellsT x k, 2)] F w S w' →
      GL Try.prog (fun t g w' => g = G (b₀.at (a₀.put ((ops₀[i₀]?).bind (·.dst)) (.slice (some ⟨g0, 0, none⟩) x.length x.length)) (.inRegion ops₀ rest₀ :: k₀)) cs ∧ LK [(g0, cellsT x x.length, 2)] F w t w') S
        (G ((base 13).at ⟨#[.slice A x.length c, v13, .slice none 0 0, .slice (some ⟨g0, 0, none⟩) x.length x.length, .int .i64 k, v14, v15, v16, v8, v9, v10, v11, v12, v17, v18, v19, v20, v21, v22, v23, v24, v25], []⟩ [.code lt1, .inLoop lt1, .inBlock 0, .code lt2]) (b₀.at a₀ (.inRegion ops₀ (i₀ :: rest₀) :: k₀) :: cs)) w' := by
  intro m
  induction m with
  | zero | succ m ih => ?_
  all_goals
    intro k hm hkn S w' v8 v9 v10 v11 v12 v13 v14 v15 v16 v17 v18 v19 v20 v21 v22 v23 v24 v25 hF
    have rl : ∀ {own : List (Nat × Array Value × TypeId)} {S : Nat → Prop} {a b : World}, LK own F w S a → RS No S a b → LK own F w S b := fun h r => h.rely r
    refine gl_go (n := 40) ?_
    simp only [lt1, Try.f13]
    (u_in rl hF; rw [stepG_seq]; simp only [goes_go]; refine ⟨by (refine de1_none ?_; intro e he; simp at he), ?_⟩)
    (u_in rl hF; rw [stepG_seq]; simp only [goes_go]; refine ⟨by (refine de1_none ?_; intro e he; simp at he), ?_⟩)
    (u_in rl hF; rw [stepG_region]; simp only [goes_go, List.size_toArray, List.length_cons, List.length_nil, Nat.reduceAdd, Nat.zero_add, List.range, List.range.loop]; refine ⟨by (refine de1_none ?_; intro e he; simp at he), ?_⟩)
    u_in rl hF
    refine goes_oper_k rfl rfl (by k_ne) (fun K hK => ?_)
    go_simp
    refine hK _ _ ⟨?_, ?_⟩
    · refine de1_none ?_
      intro e he
      have hm := mem_listed he
      simp [go_sem, *] at hm
    clear hK K
    try w_num
    u_in rl hF
    refine goes_oper_k rfl rfl (by k_ne) (fun K hK => ?_)
    go_simp
    refine hK _ _ ⟨?_, ?_⟩
    · refine de1_none ?_
      intro e he
      have hm := mem_listed he
      simp [go_sem, *] at hm
    clear hK K
    try w_num
    u_in rl hF
    refine goes_oper_k rfl rfl (by k_ne) (fun K hK => ?_)
    go_simp
    refine hK _ _ ⟨?_, ?_⟩
    · refine de1_none ?_
      intro e he
      have hm := mem_listed he
      simp [go_sem, *] at hm
    clear hK K
    try w_num
    u_in rl hF
    refine goes_oper_k rfl rfl (by k_ne) (fun K hK => ?_)
    go_simp
    refine hK _ _ ⟨?_, ?_⟩
    · refine de1_none ?_
      intro e he
      have hm := mem_listed he
      simp [go_sem, *] at hm
    clear hK K
    try w_num
    (u_in rl hF; rw [stepG_region_end]; simp only [goes_go]; refine ⟨by (refine de1_none ?_; intro e he; simp at he), ?_⟩)
    by_cases hin : k < x.length
    rotate_left
    · (u_in rl hF; rw [stepG_cond (t := false) (by first | rfl | (simp [Act.eval]; omega))]; simp only [goes_go, if_true, if_false, Bool.false_eq_true, ↓reduceIte]; refine ⟨by (refine de1_none ?_; intro e he; simp at he), ?_⟩)
      (u_in rl hF; refine goes_exit rfl ?_; refine ⟨by (refine de1_none ?_; intro e he; simp at he), ?_⟩)
      simp only [lt2, Try.f13]
      (u_in rl hF; rw [stepG_seq]; simp only [goes_go]; refine ⟨by (refine de1_none ?_; intro e he; simp at he), ?_⟩)
      (u_in rl hF; rw [stepG_region]; simp only [goes_go, List.size_toArray, List.length_cons, List.length_nil, Nat.reduceAdd, Nat.zero_add, List.range, List.range.loop]; refine ⟨by (refine de1_none ?_; intro e he; simp at he), ?_⟩)
      u_in rl hF
      refine goes_oper_k rfl rfl (by k_ne) (fun K hK => ?_)
      go_simp
      refine hK _ _ ⟨?_, ?_⟩
      · refine de1_none ?_
        intro e he
        have hm := mem_listed he
        simp [go_sem, *] at hm
      clear hK K
      try w_num
      u_in rl hF
      refine goes_oper_k rfl rfl (by k_ne) (fun K hK => ?_)
      go_simp
      refine hK _ _ ⟨?_, ?_⟩
      · refine de1_none ?_
        intro e he
        have hm := mem_listed he
        simp [go_sem, *] at hm
      clear hK K
      try w_num
      (u_in rl hF; rw [stepG_region_end]; simp only [goes_go]; refine ⟨by (refine de1_none ?_; intro e he; simp at he), ?_⟩)
      (u_in rl hF; rw [stepG_ret']; simp only [goes_go]; refine ⟨by (refine de1_none ?_; intro e he; simp at he), ?_⟩)
      (u_in rl hF; refine goes_leave1 rfl rfl Try.func13 rfl ⟨by (refine de1_none ?_; intro e he; simp at he), ?_⟩; walk_nrm)
      obtain rfl : k = x.length := by omega
      exact Goes.stop fun w₁ h₁ => Go1.stop fun w₂ h₂ => ⟨rfl, rl (rl hF h₁) h₂⟩
  · omega
  · (u_in rl hF; rw [stepG_cond (t := true) (by first | rfl | (simp [Act.eval]; omega))]; simp only [goes_go, if_true, if_false, Bool.false_eq_true, ↓reduceIte]; refine ⟨by (refine de1_none ?_; intro e he; simp at he), ?_⟩)
    (u_in rl hF; rw [stepG_skip]; simp only [goes_go]; refine ⟨by (refine de1_none ?_; intro e he; simp at he), ?_⟩)
    (u_in rl hF; rw [stepG_seq]; simp only [goes_go]; refine ⟨by (refine de1_none ?_; intro e he; simp at he), ?_⟩)
    (u_in rl hF; rw [stepG_block]; simp only [goes_go]; refine ⟨by (refine de1_none ?_; intro e he; simp at he), ?_⟩)
    (u_in rl hF; rw [stepG_region]; simp only [goes_go, List.size_toArray, List.length_cons, List.length_nil, Nat.reduceAdd, Nat.zero_add, List.range, List.range.loop]; refine ⟨by (refine de1_none ?_; intro e he; simp at he), ?_⟩)
    obtain ⟨bA, oA, rfl, hcA⟩ := hx k hin
    have hbA := hA _ rfl
    have hi : (k : Int) < (x.length : Int) := by omega
    u_in rl hF
    refine goes_oper_k rfl rfl (by k_ne) (fun K hK => ?_)
    go_simp
    refine hK _ _ ⟨?_, ?_⟩
    · refine de1_none ?_
      intro e he
      have hm := mem_listed he
      simp [go_sem, *] at hm
    clear hK K
    try w_num
    u_in rl hF
    refine goes_oper_k rfl rfl (by k_ne) (fun K hK => ?_)
    go_simp
    refine hK _ _ ⟨?_, ?_⟩
    · refine de1_none ?_
      intro e he
      have hm := mem_listed he
      simp [go_sem, *] at hm
    clear hK K
    try w_num
    u_in rl hF
    refine goes_oper_k rfl rfl (by k_ne) (fun K hK => ?_)
    go_simp
    refine hK _ _ ⟨?_, ?_⟩
    · refine de1_none ?_
      intro e he
      have hm := mem_listed he
      simp [go_sem, *] at hm
    clear hK K
    try w_num
    u_in rl hF
    refine goes_oper_k rfl rfl (by k_ne) (fun K hK => ?_)
    go_simp
    refine hK _ _ ⟨?_, ?_⟩
    · refine de1_none ?_
      intro e he
      have hm := mem_listed he
      simp [go_sem, *] at hm
    clear hK K
    try w_num
    u_in rl hF
    refine goes_oper_k rfl rfl (by k_ne) (fun K hK => ?_)
    go_simp
    refine hK _ _ ⟨?_, ?_⟩
    · refine de1_none ?_
      intro e he
      have hm := mem_listed he
      simp [go_sem, *] at hm
    clear hK K
    try w_num
    g_opw rl hF [(cell_stay (a := ⟨bA, oA + k, none⟩) (hF.old bA hbA)).trans hcA] rfl (.inl ⟨_, rfl, .inl (hF.sub bA hbA), rfl⟩)
    u_in rl hF
    refine goes_oper_k rfl rfl (by k_ne) (fun K hK => ?_)
    go_simp
    refine hK _ _ ⟨?_, ?_⟩
    · refine de1_none ?_
      intro e he
      have hm := mem_listed he
      simp [go_sem, *] at hm
    clear hK K
    try w_num
    refine Goes.stop fun w₁ h₁ => ?_
    replace hF := rl hF h₁
    clear h₁
    refine go1_op rfl rfl (by k_ne) (fun w₂ h₂ K hK => ?_)
    replace hF := rl hF h₂
    clear h₂
    obtain ⟨hg1, hg2, hg3⟩ := hF.own (g0, cellsT x k, 2) (by simp)
    simp only at hg1 hg2 hg3
    have hcg : w₂.cell? ⟨g0, k, none⟩ = some ((cellsT x k)[k]'(by rw [cellsT_size x k hkn]; exact hin)) := by simp [World.cell?, hg3, cellsT_size x k hkn, hin]
    have hfz : w₂.frozen? ⟨g0, k, none⟩ = false := by simp [World.frozen?, hg3]
    go_simp
    refine hK _ _ ⟨_, ds_store (S := S) (a := ⟨g0, k, none⟩) hg1 (fun e he => ?_), ?_⟩
    · have hm := mem_listed he
      simp [go_sem, storedEv, *] at hm
      subst hm
      exact .inl ⟨_, rfl, .inl hg1, rfl⟩
    clear hK K hcg hfz
    replace hF := hF.set (i := k) (by simp) (.int .i64 x[k])
    rw [cellsT_step x k hin] at hF
    clear hg1 hg2 hg3
    generalize w₂.setCell _ _ = w₃ at hF ⊢
    refine gl_go (n := 40) ?_
    (u_in rl hF; rw [stepG_region_end]; simp only [goes_go]; refine ⟨by (refine de1_none ?_; intro e he; simp at he), ?_⟩)
    (u_in rl hF; rw [stepG_inBlock]; simp only [goes_go]; refine ⟨by (refine de1_none ?_; intro e he; simp at he), ?_⟩)
    (u_in rl hF; rw [stepG_region]; simp only [goes_go, List.size_toArray, List.length_cons, List.length_nil, Nat.reduceAdd, Nat.zero_add, List.range, List.range.loop]; refine ⟨by (refine de1_none ?_; intro e he; simp at he), ?_⟩)
    have hw : IntKind.i64.wrap ((k : Int) + 1) = ((k + 1 : Nat) : Int) := by rw [IntKind.wrap_i64]; omega
    u_in rl hF
    refine goes_oper_k rfl rfl (by k_ne) (fun K hK => ?_)
    go_simp
    refine hK _ _ ⟨?_, ?_⟩
    · refine de1_none ?_
      intro e he
      have hm := mem_listed he
      simp [go_sem, *] at hm
    clear hK K
    try w_num
    u_in rl hF
    refine goes_oper_k rfl rfl (by k_ne) (fun K hK => ?_)
    go_simp
    refine hK _ _ ⟨?_, ?_⟩
    · refine de1_none ?_
      intro e he
      have hm := mem_listed he
      simp [go_sem, *] at hm
    clear hK K
    try w_num
    u_in rl hF
    refine goes_oper_k rfl rfl (by k_ne) (fun K hK => ?_)
    go_simp
    refine hK _ _ ⟨?_, ?_⟩
    · refine de1_none ?_
      intro e he
      have hm := mem_listed he
      simp [go_sem, *] at hm
    clear hK K
    try w_num
    (u_in rl hF; rw [stepG_region_end]; simp only [goes_go]; refine ⟨by (refine de1_none ?_; intro e he; simp at he), ?_⟩)
    (u_in rl hF; rw [stepG_inLoop]; simp only [goes_go]; refine ⟨by (refine de1_none ?_; intro e he; simp at he), ?_⟩)
    refine Goes.stop fun w₂ h₂ => ?_
    have hx2 := ih (k + 1) (by omega) (by omega) S w₂
    simp only [lt1, Try.f13] at hx2
    exact hx2 _ _ _ _ _ _ _ _ _ _ _ _ _ _ _ _ _ _ (rl hF h₂)
noncomputable def bodyTI : Code := match Try.f13.body with | some c => c | _ => .skip
theorem ti_spine : spineOk Try.prog ⟨fun _ => false, fun _ => false, fun _ => false, fun _ => false⟩ 2 bodyTI = true := by kernel_rfl
theorem ti_body : Try.f13.body = some bodyTI := rfl
abbrev actTI (A : Option Addr) (n c : Nat) : Act := ⟨#[.slice A n c, undef, undef, undef, undef, undef, undef, undef, undef, undef, undef, undef, undef, undef, undef, undef, undef, undef, undef, undef, undef, undef], []⟩
theorem ti_enter (A : Option Addr) (n c : Nat) : Frame.enter Try.prog 13 #[.slice A n c] .normal = (base 13).at (actTI A n c) [.code bodyTI] := by
  rw [enter_at _ Try.func13 ti_body]
  kernel_rfl
def PreTI (A : Option Addr) (c n B : Nat) (a' : Act) (w' : World) : Prop :=
  ∃ g v5 v6 v7, a' = ⟨#[.slice A n c, undef, .slice none 0 0, .slice (some ⟨g, 0, none⟩) n n, undef, v5, v6, v7, undef, undef, undef, undef, undef, undef, undef, undef, undef, undef, undef, undef, undef, undef], []⟩ ∧ B ≤ g ∧ w'.heap[g]? = some (.cells (madeCells #[.int .i64 0] n) 2 (0, 0))
set_option maxRecDepth 100000 in
set_option maxHeartbeats 1600000 in
theorem ti_reach (A : Option Addr) (c n : Nat) (w : World) (hn : n ≤ 1048576) : Rel.Reach Try.prog 2 bodyTI (PreTI A c n w.heap.size) (actTI A n c) w := by
  have hmk := run_make_row' (P := Try.prog) 22 2 (.int .i64 0) 8 Try.underlying22 (by kernel_rfl) rfl .i64 .i64 n (by omega) (by omega)
  simp only [bodyTI, Try.f13]
  refine reach_seq ?_
  go_wp2
  refine reach_seq ?_
  go_wp2
  refine reach_here ?_
  exact ⟨w.heap.size, _, _, _, rfl, Nat.le_refl _, heap_alloc_new w _⟩
set_option maxRecDepth 100000 in
set_option maxHeartbeats 4000000 in
/-- ████ toInt64S, BESIDE LEAVERS. ████ -/
theorem toI_gl (hF0 : ∀ b, F b → b < w.heap.size) (hG : Try.prog.globals.size ≤ w.heap.size) (hA : ArgP F w A) (hx : RdL (Value.int .i64) w A x) (hn : x.length ≤ 1048576) :
    GL Try.prog (fun t g w' => ∃ g0, g = G (b₀.at (a₀.put ((ops₀[i₀]?).bind (·.dst)) (.slice (some ⟨g0, 0, none⟩) x.length x.length)) (.inRegion ops₀ rest₀ :: k₀)) cs ∧ LK [(g0, (x.map (Value.int .i64)).toArray, 2)] F w t w') F
      (G (Frame.enter Try.prog 13 #[.slice A x.length c] .normal) (b₀.at a₀ (.inRegion ops₀ (i₀ :: rest₀) :: k₀) :: cs)) w := by
  rw [ti_enter]
  have okA : okV (fnsQ (fun _ => false) w F No) w.heap.size (.slice A x.length c) = true := by
    cases A with
    | none => simp
    | some a =>
      rw [okV_sliceA _ _ _ _ (hA a rfl).2.2]
      exact fnsQ_ok hF0 (hA a rfl).1 (hA a rfl).2.1
  have hcut := gl_cut (P := Try.prog) (fs := fun _ => false) (v := w) (F := F) (W := No) (cs := b₀.at a₀ (.inRegion ops₀ (i₀ :: rest₀) :: k₀) :: cs) (f := 13) (c := bodyTI) (n := 2) (a := actTI A x.length c) (Pre := PreTI A c x.length w.heap.size) (fun b h => h.elim) hF0 zero_ok hG (fun f h => by cases h) ti_spine rfl
    (by
      intro z hz
      simp at hz
      rcases hz with rfl | rfl
      · exact okA
      · exact okV_undef _ _) (fun τ => by
    have := ti_reach A c x.length { loneW (fnsQ (fun _ => false) w F No) w with tape := τ, drawn := 0 } hn
    have e : ({ loneW (fnsQ (fun _ => false) w F No) w with tape := τ, drawn := 0 } : World).heap.size = w.heap.size := loneW_size
    rw [e] at this
    exact this)
  refine Go1.bind (fun _ a => RS.refl a) hcut ?_
  rintro t g w' ⟨s, rfl, ρ, a', wl, rfl, ⟨g0, v5, v6, v7, rfl, l1, q1⟩, hok, hL⟩
  have ea : A.map (renS ρ) = A := by
    cases A with
    | none => rfl
    | some a =>
      have := hL.id a.block (hF0 _ (hA a rfl).1)
      rw [Option.map_some, renS_none _ (hA a rfl).2.2]
      simp only [renA, this]
  have hlt : g0 < wl.heap.size := (Array.getElem?_eq_some_iff.1 q1).1
  have hK0 := lk_left hF0 hL
  have p1 := (left_blk hL (fnsQ_new l1).1 q1).1
  have em : (madeCells #[Value.int .i64 0] x.length).map (ren ρ) = cellsT x 0 := by
    rw [cellsT_zero]
    apply Array.ext'
    simp [cellsT]
  rw [em] at p1
  have m1 := left_new hL l1 hlt
  have hF : LK [(ρ.f g0, cellsT x 0, 2)] F w (fun b => (F b ∧ ¬ No b) ∨ s b) w' := by
    refine ⟨hK0.size, fun p hp => ?_, hK0.sub, hK0.s0, hK0.low, hK0.new, hK0.old, hK0.tape, hK0.os, hK0.output⟩
    obtain rfl : p = (ρ.f g0, cellsT x 0, 2) := by simpa using hp
    exact ⟨.inr m1.1, m1.2, p1⟩
  simp only [List.map_toArray, List.map_cons, List.map_nil, ren_slice, ren_undef, Option.map_some, Option.map_none, renS_lit, renA, ea]
  generalize ρ.f g0 = g0 at hF ⊢
  generalize (fun b => (F b ∧ ¬ No b) ∨ s b) = S at hF ⊢
  clear hok hL q1 hK0 p1 m1 em hcut okA ea
  have rl : ∀ {own : List (Nat × Array Value × TypeId)} {S : Nat → Prop} {a b : World}, LK own F w S a → RS No S a b → LK own F w S b := fun h r => h.rely r
  refine gl_go (n := 40) ?_
  simp only [bodyTI, Try.f13, cut]
  (u_in rl hF; rw [stepG_seq]; simp only [goes_go]; refine ⟨by (refine de1_none ?_; intro e he; simp at he), ?_⟩)
  (u_in rl hF; rw [stepG_seq]; simp only [goes_go]; refine ⟨by (refine de1_none ?_; intro e he; simp at he), ?_⟩)
  (u_in rl hF; rw [stepG_region]; simp only [goes_go, List.size_toArray, List.length_cons, List.length_nil, Nat.reduceAdd, Nat.zero_add, List.range, List.range.loop]; refine ⟨by (refine de1_none ?_; intro e he; simp at he), ?_⟩)
  u_in rl hF
  refine goes_oper_k rfl rfl (by k_ne) (fun K hK => ?_)
  go_simp
  refine hK _ _ ⟨?_, ?_⟩
  · refine de1_none ?_
    intro e he
    have hm := mem_listed he
    simp [go_sem, *] at hm
  clear hK K
  try w_num
  (u_in rl hF; rw [stepG_region_end]; simp only [goes_go]; refine ⟨by (refine de1_none ?_; intro e he; simp at he), ?_⟩)
  (u_in rl hF; rw [stepG_block]; simp only [goes_go]; refine ⟨by (refine de1_none ?_; intro e he; simp at he), ?_⟩)
  (u_in rl hF; rw [stepG_loop]; simp only [goes_go]; refine ⟨by (refine de1_none ?_; intro e he; simp at he), ?_⟩)
  refine Goes.stop fun w₄ h₄ => ?_
  have h1 := toI_loop (F := F) (w := w) (c := c) (cs := cs) (b₀ := b₀) (a₀ := a₀) (ops₀ := ops₀) (i₀ := i₀) (rest₀ := rest₀) (k₀ := k₀) (fun a ha => (hA a ha).1) hx hn g0 x.length 0 (by omega) (by omega) S w₄
  simp only [lt1, lt2, Try.f13] at h1
  refine Go1.widen (h1 _ _ _ _ _ _ _ _ _ _ _ _ _ _ _ _ _ _ (rl hF h₄)) ?_
  rintro t g w' ⟨rfl, hK⟩
  rw [cellsT_all] at hK
  exact ⟨g0, rfl, hK⟩
end
end Go.Proofs.Ytmmolicodlmlkaa.Ph
namespace Go.Proofs.Ytmmolicodlmlkaa
open Go.RowKit
set_option linter.unusedVariables false

/-- The cells of an own slice's block from number n on are zero. -/
def SpareZ (z : Value) (w : World) (v : Value) (n : Nat) : Prop := ∀ g, v.ownBlock = some g → ∃ c e, w.heap[g]? = some (.cells c e (0, 0)) ∧ ∀ x ∈ c.toList.drop n, x = z
theorem SpareZ.made {z : Value} {w : World} {e : TypeId} : SpareZ z (w.alloc (.cells #[] e)) (.slice (some ⟨w.heap.size, 0, none⟩) 0 0) 0 := fun g hg => by
  obtain rfl : w.heap.size = g := by injection hg
  exact ⟨#[], e, heap_alloc_new w _, by simp⟩
theorem SpareZ.alloc {z : Value} {w : World} {v : Value} {n : Nat} (h : SpareZ z w v n) (o : Obj) : SpareZ z (w.alloc o) v n := fun g hg => by
  obtain ⟨c, e, h1, h2⟩ := h g hg
  exact ⟨c, e, (heap_alloc_old w o (Array.getElem?_eq_some_iff.1 h1).1).trans h1, h2⟩
theorem SpareZ.stay {z : Value} {w w' : World} {v : Value} {n : Nat} (h : SpareZ z w v n) (hs : ∀ g, v.ownBlock = some g → w'.heap[g]? = w.heap[g]?) : SpareZ z w' v n := fun g hg => by
  obtain ⟨c, e, h1, h2⟩ := h g hg
  exact ⟨c, e, (hs g hg).trans h1, h2⟩
theorem zero_all {z : Value} {n : Nat} : ∀ x ∈ Builtin.zeroCells #[z] n, x = z := by
  intro x hx
  simp [Builtin.zeroCells, Nat.mod_one] at hx
  obtain ⟨_, _, rfl⟩ := hx
  rfl
theorem run_append_sp {P : Program} (w : World) (base : Nat) (t ty e : TypeId) (i : TypeInfo) (z : Value) (bytes : Nat) (ht : P.underlying t = some (.slice e)) (hi : P.info? e = some i) (hz : i.zero = some z) (hzc : z.cells = #[z]) (hsize : i.size = 1) (hby : i.bytes = bytes)
    (v : Value) (n : Nat) (xs : List Value) (hown : w.ownsRow base e 1 v n xs) (hv : SpareZ z w v n) (a : Addr) (c : Nat) (u : Value) (hu : u.oneCell' = true) (hc : w.cell? a = some u) (h63 : n + 1 ≤ maxLen) (hbytes : (n + 1) * bytes ≤ 140737488355328) (hbase : base ≤ w.heap.size) :
    ∃ v' w', (Builtin.append_ #[t, t] ty #[v, .slice (some a) 1 c]).run P w = .ok v' w' ∧ w'.ownsRow base e 1 v' (n + 1) (xs ++ [u]) ∧ w.grownBy w' v.ownBlock ∧ SpareZ z w' v' (n + 1) ∧ ∀ g, v'.ownBlock = some g → v.ownBlock = some g ∨ w.heap.size ≤ g := by
  have hnews : ∀ j y, [u][j]? = some y → w.cell? (a.add j) = some y := by
    intro j y hy
    cases j with
    | zero =>
      simp at hy
      subst hy
      rw [show a.add 0 = a from by unfold Addr.add; cases a; simp]
      exact hc
    | succ j => simp at hy
  obtain ⟨v', w', hr, h2, h3, h4⟩ := run_append_own (P := P) w base t ty e i z 1 bytes ht hi hz hsize hby (by rw [hzc]; rfl) (by decide) v n xs hown a 1 c [u] rfl hnews (by intro y hy; simp at hy; subst hy; exact hu) h63 hbytes hbase
  have hm : (n + 1 : Nat) ≤ 9223372036854775807 := by simp only [maxLen] at h63; omega
  have key : SpareZ z w' v' (n + 1) ∧ ∀ g, v'.ownBlock = some g → v.ownBlock = some g ∨ w.heap.size ≤ g := by
    rcases hown.2 with ⟨rfl, rfl⟩ | ⟨g, cap, cur, rfl, hbg, hg, hnc, hcm, hcs, htake⟩
    · have hx : xs = [] := List.eq_nil_of_length_eq_zero (by simpa using hown.1)
      subst hx
      have hr2 := run_append_nil (P := P) w t ty e i z ht hi hz a 1 c [u] (by rw [hsize]; rfl) hnews (by omega) (by omega) (by rw [hby]; omega)
      rw [hr] at hr2
      injection hr2 with e1 e2
      subst e1; subst e2
      refine ⟨fun g' hg' => ?_, fun g' hg' => .inr ?_⟩
      · obtain rfl : w.heap.size = g' := by injection hg'
        exact ⟨_, e, heap_alloc_new w.drew _, fun y hy => by
          rw [hzc] at hy
          simp at hy
          exact zero_all y hy⟩
      · obtain rfl : w.heap.size = g' := by injection hg'
        exact Nat.le_refl _
    · by_cases hroom : n + 1 ≤ cap
      · have hr2 := run_append_room (P := P) w t ty e i ht hi g n cap cur hg a 1 c [u] (by rw [hsize]; rfl) hnews (by intro y hy; simp at hy; subst hy; exact hu) hroom (by rw [hsize]; simp; omega)
        rw [hr] at hr2
        injection hr2 with e1 e2
        subst e1; subst e2
        refine ⟨fun g' hg' => ?_, fun g' hg' => .inl hg'⟩
        obtain rfl : g = g' := by injection hg'
        refine ⟨_, e, setRow_heap w g cur _ e _ hg, fun x hx => ?_⟩
        obtain ⟨c0, e0, q1, q2⟩ := hv g rfl
        rw [hg] at q1
        injection q1 with q1
        injection q1 with q1
        subst q1
        rw [hsize, Nat.mul_one] at hx
        have hl : (cur.toList.take n).length = n := by simp; omega
        simp only [List.append_assoc] at hx
        rw [List.drop_append, hl, List.drop_of_length_le (by rw [hl]; omega), List.nil_append, show n + 1 - n = 1 by omega] at hx
        simp only [List.singleton_append, List.drop_succ_cons, List.drop_zero, List.length_singleton] at hx
        exact q2 x (by
          have : cur.toList.drop (n + 1) = (cur.toList.drop n).drop 1 := by rw [List.drop_drop]
          rw [this] at hx
          exact List.mem_of_mem_drop hx)
      · have holds : ∀ j y, xs[j]? = some y → w.cell? ((⟨g, 0, none⟩ : Addr).add j) = some y := hown.cells (g := g) rfl
        have hr2 := run_append_grow (P := P) w t ty e i z ht hi hz ⟨g, 0, none⟩ n cap xs (by rw [hsize]; exact hown.1) holds a 1 c [u] (by rw [hsize]; rfl) hnews (by omega) (by omega) (growslice_fits (by omega) (by rw [hby]; exact hbytes))
        rw [hr] at hr2
        injection hr2 with e1 e2
        subst e1; subst e2
        refine ⟨fun g' hg' => ?_, fun g' hg' => .inr ?_⟩
        · obtain rfl : w.heap.size = g' := by injection hg'
          refine ⟨_, e, heap_alloc_new w.drew _, fun y hy => ?_⟩
          have hxl : xs.length = n := by simpa using hown.1
          simp only [Array.toList_append, List.append_assoc] at hy
          rw [List.drop_append, List.drop_of_length_le (show xs.length ≤ n + 1 by omega), List.nil_append] at hy
          simp only [hxl, show n + 1 - n = 1 by omega, List.singleton_append, List.drop_succ_cons, List.drop_zero] at hy
          rw [hzc] at hy
          exact zero_all y (by simpa using hy)
        · obtain rfl : w.heap.size = g' := by injection hg'
          exact Nat.le_refl _
  exact ⟨v', w', hr, h2, h3, key.1, key.2⟩
theorem wpList_append_sp {P : Program} {w : World} {ops : Array Oper} {rest : List Oper} {o : Oper} {a : Act} {Q : Exit → Act → World → Prop} (hgd : o.guard = none) (s x : Operand) (t : TypeId)
    (ho : o.op = .call { callee := .builtin .append, args := #[s, x], argTypes := #[t, t] }) (base : Nat) (e : TypeId) (i : TypeInfo) (z : Value) (bytes : Nat) (ht : P.underlying t = some (.slice e)) (hi : P.info? e = some i) (hz : i.zero = some z) (hzc : z.cells = #[z]) (hsize : i.size = 1) (hby : i.bytes = bytes)
    (v : Value) (n : Nat) (xs : List Value) (hs : a.eval s = v) (hown : w.ownsRow base e 1 v n xs) (hv : SpareZ z w v n) (ad : Addr) (c : Nat) (u : Value) (hu : u.oneCell' = true) (hx : a.eval x = .slice (some ad) 1 c) (hc : w.cell? ad = some u) (h63 : n + 1 ≤ maxLen) (hbytes : (n + 1) * bytes ≤ 140737488355328) (hbase : base ≤ w.heap.size)
    (hk : ∀ v' w', w'.ownsRow base e 1 v' (n + 1) (xs ++ [u]) → w.grownBy w' v.ownBlock → SpareZ z w' v' (n + 1) → (∀ g, v'.ownBlock = some g → v.ownBlock = some g ∨ w.heap.size ≤ g) → wpList P ops Q rest (a.put o.dst v') w') : wpList P ops Q (o :: rest) a w := by
  refine wpList_plain hgd fun _ hK => ?_
  obtain ⟨v', w', hr, h2, h3, h4, h5⟩ := run_append_sp (P := P) w base t o.type e i z bytes ht hi hz hzc hsize hby v n xs hown hv ad c u hu hc h63 hbytes hbase
  unfold Oper.wp execOp
  simp only [ho, resolve, invoke, builtin, Sem.run_bind, Sem.run_pure, Result.andThen_ok, List.map_toArray, List.map_cons, List.map_nil, hs, hx, hr]
  exact hK _ _ (hk v' w' h2 h3 h4 h5)
end Go.Proofs.Ytmmolicodlmlkaa
namespace Go.Proofs.Ytmmolicodlmlkaa
open Go.RowKit
open Go.Proofs.Ytmmolicodlmlkaa.Rel (Ints IntsA)
set_option linter.unusedVariables false
set_option linter.unusedSimpArgs false

set_option maxRecDepth 100000 in
set_option maxHeartbeats 1600000 in
theorem l02Row_own (A : Option Addr) (c : Nat) (x : List Int) (salt : Nat) (w : World) (hx : RdL (Value.int .i64) w A x) (hn : x.length ≤ 256) (hbd : ∀ y ∈ x, 0 ≤ y ∧ y ≤ 4294967295) (hs : salt < 4294967296) :
    Calls Try.prog 74 #[.slice A x.length c, .int .i64 salt] w (RetLN (Value.int .i64) 2 w (rowH x salt x.length)) := by
  obtain ⟨i0, hi0, hz0, hz1, hz2⟩ := info_parts Try.infoI
  have HX := hid hx
  have HBD := hid hbd
  clear hx hbd
  go_enter Try.func74, Try.ntmps74
  go_wp2
  go_loopw [5, 6] (fun v i wr => ∃ k : Nat, k ≤ x.length ∧ i = .int .i64 k ∧ Hid (wr.ownsRow w.heap.size 2 1 v k ((rowH x salt k).map (Value.int .i64))) ∧ Hid (IntsV wr v) ∧ Hid (Below w.heap.size w wr)) (fun _ i _ => x.length - (intOf i).toNat)
  case atStart => exact ⟨0, Nat.zero_le _, rfl, World.ownsRow_made w #[] 0 (Nat.le_refl _) (Nat.zero_le _) rfl, IntsV.made, below_a1 _ _⟩
  case round =>
    obtain ⟨k, hkr, rfl, hown, hI, hW⟩ := hrel
    by_cases hlt : k < x.length
    · have hi : (k : Int) < (x.length : Int) := by omega
      obtain ⟨b, o, y, rfl, hcy, hyk⟩ := (HX.out.below hW.out).at_ hlt
      have hyb := HBD.out y (List.mem_of_getElem? hyk.out)
      obtain ⟨yn, rfl⟩ := Int.eq_ofNat_of_zero_le hyb.1
      have hyl : yn < 4294967296 := by omega
      obtain ⟨hv, hve⟩ : ∃ h, h = hashN yn salt := ⟨_, rfl⟩
      have HV : Hid (hashAt x salt k = hv) := by show _ = _; unfold hashAt; rw [getD_of hyk, hve]; simp
      have C1 : Hid (∀ w, Calls Try.prog 120 #[.int .i64 (yn : Int), .int .i64 (salt : Int)] w fun e w'' => e = .returned (.int .i64 hv) ∧ w = w'') := fun w => (l02Hash_any yn salt w hyl hs).mono fun _ _ ⟨h, h'⟩ => ⟨by rw [h, hve], h'⟩
      clear hve hyb
      go_wp2_with (first | (go_at_call 120; refine (C1.out _).mono ?_; rintro e w' ⟨rfl, rfl⟩) | (at_builtin; refine wpList_append_ints rfl _ _ 22 rfl w.heap.size 2 i0 Try.underlying22 hi0 hz0 hz1 hz2 _ _ _ rfl (hown.out.alloc _) (hI.out.alloc _) ⟨wr.heap.size, 0, none⟩ 1 hv rfl ?c1 ?c3 ?c4 ?c5 ?_))
      case c1 => have := cell_one_new wr (Value.int .i64 hv) 2 0 _ rfl; simp
      case c3 => simp only [maxLen]; omega
      case c4 => omega
      case c5 => have := hW.out.size; simp; omega
      intro v' w1 hown' hgrow hI'
      have I1 := hid hI'
      clear hI'
      have hd : (rowH x salt k).map (Value.int .i64) ++ [Value.int .i64 hv] = (rowH x salt (k + 1)).map (Value.int .i64) := by rw [rowH_succ, HV.out]; simp
      rw [hd] at hown'
      have O1 := hid hown'
      have W1 : Hid (Below w.heap.size w w1) := (hW.out.alloc hW.out.size _).grown hgrow (by have := hW.out.size; simp; omega) (fun g hg => (hown.out.alloc (.cells #[.int .i64 hv] 2)).lt g hg |>.1)
      clear hown' hgrow hd
      go_wp2
      exact ⟨⟨k + 1, by omega, by go_num, O1, I1, W1⟩, by simp [intOf]; omega⟩
    · have hi : ¬ (k : Int) < (x.length : Int) := by omega
      obtain rfl : k = x.length := by omega
      go_wp2
      go_ret
      obtain ⟨A', c', hv, ho, hn'⟩ := ownS_of_rowN hown.out hI.out (rowH_length _ _ _)
      exact ⟨A', c', congrArg Ending.returned hv, ho, hn', hW.out⟩
/-- Rows that are being made: those of the first k numbers. -/
structure Rws (w0 : World) (x sl : List Int) (v : Value) (k : Nat) (R : Nat → Option Addr) (cc : Nat → Nat) (w : World) : Prop where
  own : w.ownsRow w0.heap.size 22 1 v k ((List.range k).map fun o => .slice (R o) x.length (cc o))
  spare : SpareZ (.slice none 0 0) w v k
  row : ∀ o, o < k → OwnS (Value.int .i64) w w0.heap.size 2 (R o) (rowH x (sl.getD o 0).toNat x.length) ∧ ∀ a, R o = some a → w0.heap.size ≤ a.block ∧ IntsA w a ∧ v.ownBlock ≠ some a.block
  below : Below w0.heap.size w0 w
/-- What the reference makes. -/
def RetRws (w0 : World) (x sl : List Int) (g : Bool) (e : Ending) (w : World) : Prop :=
  Below w0.heap.size w0 w ∧ ((g = false ∧ e = .returned (.tuple #[.slice none 0 0, .bool false])) ∨ (g = true ∧ ∃ v R cc, e = .returned (.tuple #[v, .bool true]) ∧ Rws w0 x sl v sl.length R cc w))
theorem Rws.grown {w0 w w' : World} {x sl : List Int} {v v' : Value} {k : Nat} {R : Nat → Option Addr} {cc : Nat → Nat} (h : Rws w0 x sl v k R cc w) {a : Option Addr} {c : Nat} (hown : w'.ownsRow w0.heap.size 22 1 v' (k + 1) (((List.range k).map fun o => .slice (R o) x.length (cc o)) ++ [.slice a x.length c])) (hg : w.grownBy w' v.ownBlock) (hs : SpareZ (.slice none 0 0) w' v' (k + 1)) (hv : ∀ g, v'.ownBlock = some g → v.ownBlock = some g ∨ w.heap.size ≤ g)
    (ha : OwnS (Value.int .i64) w w0.heap.size 2 a (rowH x (sl.getD k 0).toNat x.length) ∧ ∀ b, a = some b → w0.heap.size ≤ b.block ∧ IntsA w b ∧ v.ownBlock ≠ some b.block) :
    Rws w0 x sl v' (k + 1) (fun o => if o = k then a else R o) (fun o => if o = k then c else cc o) w' := by
  have lt : ∀ b, Ints w b → b < w.heap.size := fun b ⟨_, _, h, _⟩ => (Array.getElem?_eq_some_iff.1 h).1
  have keep : ∀ (B : Option Addr) (y : List Int), (OwnS (Value.int .i64) w w0.heap.size 2 B y ∧ ∀ b, B = some b → w0.heap.size ≤ b.block ∧ IntsA w b ∧ v.ownBlock ≠ some b.block) →
      (OwnS (Value.int .i64) w' w0.heap.size 2 B y ∧ ∀ b, B = some b → w0.heap.size ≤ b.block ∧ IntsA w' b ∧ v'.ownBlock ≠ some b.block) := by
    rintro B y ⟨q1, q2⟩
    have hb : ∀ b, B = some b → w'.heap[b.block]? = w.heap[b.block]? := fun b e => hg.block _ (lt _ (q2 b e).2.1.1) fun e' => (q2 b e).2.2 e'.symm
    refine ⟨fun hne => ?_, fun b e => ⟨(q2 b e).1, (q2 b e).2.1.stay (hb b e), fun e' => ?_⟩⟩
    · obtain ⟨g, ex, e1, e2, e3⟩ := q1 hne
      exact ⟨g, ex, e1, e2, (hb _ e1).trans e3⟩
    · rcases hv _ e' with h1 | h1
      · exact (q2 b e).2.2 h1
      · have := lt _ (q2 b e).2.1.1; omega
  refine ⟨?_, hs, fun o ho => ?_, h.below.grown hg h.below.size fun g hg' => (h.own.lt g hg').1⟩
  · rw [List.range_succ, List.map_append]
    have e : ((List.range k).map fun o => Value.slice (if o = k then a else R o) x.length (if o = k then c else cc o)) = (List.range k).map fun o => .slice (R o) x.length (cc o) := List.map_congr_left fun o ho => by
      have : o ≠ k := by have := List.mem_range.1 ho; omega
      simp [this]
    rw [e]
    simpa using hown
  · by_cases he : o = k
    · subst he
      simpa using keep _ _ ha
    · simp only [he, if_false]
      exact keep _ _ (h.row o (by omega))
theorem Rws.moved {w0 w w' : World} {x sl : List Int} {v : Value} {k : Nat} {R : Nat → Option Addr} {cc : Nat → Nat} (h : Rws w0 x sl v k R cc w) (hb : Below w.heap.size w w') : Rws w0 x sl v k R cc w' := by
  have hbl : ∀ b, b < w.heap.size → w'.heap[b]? = w.heap[b]? := fun b hb' => hb.block b hb'
  have lt : ∀ b, Ints w b → b < w.heap.size := fun b ⟨_, _, h, _⟩ => (Array.getElem?_eq_some_iff.1 h).1
  refine ⟨h.own.kept ⟨hb.os, hb.tape, hb.output, hb.size, fun k hk _ => hb.block k hk⟩ (row := none) ?_, h.spare.stay fun g hg => hbl g (h.own.lt g hg).2, fun o ho => ⟨fun hne => ?_, fun a ha => ?_⟩, h.below.trans (hb.mono h.below.size)⟩
  · cases v.ownBlock with
    | none => exact .inl rfl
    | some g => exact .inr (by simp)
  · obtain ⟨g, ex, e1, e2, e3⟩ := (h.row o ho).1 hne
    exact ⟨g, ex, e1, e2, (hbl g (lt _ ((h.row o ho).2 _ e1).2.1.1)).trans e3⟩
  · obtain ⟨q1, q2, q3⟩ := (h.row o ho).2 a ha
    exact ⟨q1, q2.stay (hbl _ (lt _ q2.1)), q3⟩
theorem Rws.alloc {w0 w : World} {x sl : List Int} {v : Value} {k : Nat} {R : Nat → Option Addr} {cc : Nat → Nat} (h : Rws w0 x sl v k R cc w) (o : Obj) : Rws w0 x sl v k R cc (w.alloc o) := h.moved (below_a1 w o)
theorem infoSl : (Try.prog.info? 22).map (fun i => (i.zero, i.size, i.bytes)) = some (some (.slice none 0 0), 1, 24) := by kernel_rfl
/-- Are there rows? -/
def gateHR (x sl : List Int) : Bool := keysQ x && keysQ sl && decide (sl.length ≤ 32)
set_option maxRecDepth 100000 in
set_option maxHeartbeats 4000000 in
theorem sHashRows_any (A : Option Addr) (c : Nat) (x : List Int) (A2 : Option Addr) (c2 : Nat) (sl : List Int) (w : World) (hx : RdL (Value.int .i64) w A x) (hs : RdL (Value.int .i64) w A2 sl) :
    Calls Try.prog 18 #[.slice A x.length c, .slice A2 sl.length c2] w (RetRws w x sl (gateHR x sl)) := by
  have HX := hid hx
  have HS := hid hs
  clear hx hs
  cases h1 : keysQ x with
  | false =>
    have hp : gateHR x sl = false := by simp [gateHR, h1]
    rw [hp]
    clear hp
    go_enter Try.func18, Try.ntmps18
    go_wp2_with (go_at_call 72; refine (l02Keys_q A c x _ HX.out).mono ?_; rw [h1]; rintro e w' ⟨rfl, rfl⟩)
    go_ret2
    exact ⟨Below.refl _ _, .inl ⟨rfl, rfl⟩⟩
  | true =>
  cases h2 : keysQ sl with
  | false =>
    have hp : gateHR x sl = false := by simp [gateHR, h1, h2]
    rw [hp]
    clear hp
    go_enter Try.func18, Try.ntmps18
    have tok1 : True := trivial
    go_wp2_with (first | (have _t := tok1; clear tok1 _t; go_at_call 72; refine (l02Keys_q A c x _ HX.out).mono ?_; rw [h1]; rintro e w' ⟨rfl, rfl⟩) | (go_at_call 72; refine (l02Keys_q A2 c2 sl _ HS.out).mono ?_; rw [h2]; rintro e w' ⟨rfl, rfl⟩))
    go_ret2
    exact ⟨Below.refl _ _, .inl ⟨rfl, rfl⟩⟩
  | true =>
  by_cases h3 : sl.length ≤ 32
  rotate_left
  · have hp : gateHR x sl = false := by simp [gateHR, h1, h2, h3]
    rw [hp]
    clear hp
    have h3' : (sl.length : Int) > 32 := by omega
    clear h3
    go_enter Try.func18, Try.ntmps18
    have tok1 : True := trivial
    go_wp2_with (first | (have _t := tok1; clear tok1 _t; go_at_call 72; refine (l02Keys_q A c x _ HX.out).mono ?_; rw [h1]; rintro e w' ⟨rfl, rfl⟩) | (go_at_call 72; refine (l02Keys_q A2 c2 sl _ HS.out).mono ?_; rw [h2]; rintro e w' ⟨rfl, rfl⟩))
    go_ret2
    exact ⟨Below.refl _ _, .inl ⟨rfl, rfl⟩⟩
  have hp : gateHR x sl = true := by simp [gateHR, h1, h2, h3]
  rw [hp]
  clear hp
  have h3' : ¬ (sl.length : Int) > 32 := by omega
  obtain ⟨hxl, hxb⟩ := keysQ_iff h1
  obtain ⟨_, hsb⟩ := keysQ_iff h2
  have HSB := hid hsb
  have HXB := hid hxb
  obtain ⟨i0, hi0, hz0, hz1, hz2⟩ := info_parts infoSl
  go_enter Try.func18, Try.ntmps18
  have tok1 : True := trivial
  go_wp2_with (first | (have _t := tok1; clear tok1 _t; go_at_call 72; refine (l02Keys_q A c x _ HX.out).mono ?_; rw [h1]; rintro e w' ⟨rfl, rfl⟩) | (go_at_call 72; refine (l02Keys_q A2 c2 sl _ HS.out).mono ?_; rw [h2]; rintro e w' ⟨rfl, rfl⟩))
  clear h1 h2 hsb hxb
  go_loopw [6, 7] (fun v i wr => ∃ k : Nat, k ≤ sl.length ∧ i = .int .i64 k ∧ Hid (∃ R cc, Rws w x sl v k R cc wr)) (fun _ i _ => sl.length - (intOf i).toNat)
  case atStart => exact ⟨0, Nat.zero_le _, rfl, fun _ => none, fun _ => 0, World.ownsRow_made w #[] 0 (Nat.le_refl _) (Nat.zero_le _) rfl, SpareZ.made, fun o ho => absurd ho (by omega), below_a1 _ _⟩
  case round =>
    obtain ⟨k, hkr, rfl, hrw⟩ := hrel
    by_cases hlt : k < sl.length
    · have hi : (k : Int) < (sl.length : Int) := by omega
      obtain ⟨R, cc, hR⟩ := hrw.out
      have HR := hid hR
      clear hrw hR
      obtain ⟨b, o, y, rfl, hcy, hyk⟩ := (HS.out.below HR.out.below).at_ hlt
      have hyb := HSB.out y (List.mem_of_getElem? hyk.out)
      obtain ⟨yn, rfl⟩ := Int.eq_ofNat_of_zero_le hyb.1
      have hyl : yn < 4294967296 := by omega
      have HY : Hid ((sl.getD k 0).toNat = yn) := by show _ = _; rw [List.getD_eq_getElem?_getD, hyk.out]; simp
      have HX1 := hid (HX.out.below HR.out.below)
      clear hyb hyk
      go_wp2_with (first | (go_at_call 74; refine (l02Row_own A c x yn _ HX1.out hxl HXB.out hyl).mono ?_; rintro e w1 ⟨A', c', rfl, ho, hn', hb⟩; rw [rowH_length]; have HR2 := hid ((HR.out.moved hb).alloc (.cells #[.slice A' x.length c'] 22)); have HN := hid (And.intro ho hn'); have HB := hid hb; clear ho hn' hb) | (at_builtin; refine wpList_append_sp rfl _ _ 29 rfl w.heap.size 22 i0 (.slice none 0 0) 24 Try.underlying29 hi0 hz0 rfl hz1 hz2 _ k _ rfl HR2.out.own HR2.out.spare ⟨_, 0, none⟩ 1 (.slice A' x.length c') rfl rfl ?c2 ?c3 ?c4 ?c5 ?_))
      case c2 => have := cell_one_new w1 (Value.slice A' x.length c') 22 0 _ rfl; simp
      case c3 => simp only [maxLen]; omega
      case c4 => omega
      case c5 => have := HR2.out.below.size; simp at this ⊢; omega
      intro v' w2 hown' hgrow hsp hvb
      have HG : Hid (∃ R cc, Rws w x sl v' (k + 1) R cc w2) := by
        have hb1 := HB.out
        have hsz := HR.out.below.size
        refine ⟨_, _, HR2.out.grown (a := A') (c := c') hown' hgrow hsp (fun g hg => by rw [World.size_alloc]; exact hvb g hg) ⟨?_, fun b' hb' => ?_⟩⟩
        · rw [HY.out]
          exact (HN.out.1.mono hsz).below (below_a1 _ _)
        · obtain ⟨q1, q2⟩ := HN.out.2 b' hb'
          have hlt' : b'.block < w1.heap.size := by obtain ⟨⟨_, _, q3, _⟩, _⟩ := q2; exact (Array.getElem?_eq_some_iff.1 q3).1
          exact ⟨by omega, q2.stay (heap_alloc_old w1 _ hlt'), fun e => by have := (HR.out.own.lt _ e).2; omega⟩
      clear hown' hgrow hsp hvb
      go_wp2
      exact ⟨⟨k + 1, by omega, by go_num, HG⟩, by simp [intOf]; omega⟩
    · have hi : ¬ (k : Int) < (sl.length : Int) := by omega
      obtain rfl : k = sl.length := by omega
      go_wp2
      go_ret2
      obtain ⟨R, cc, hR⟩ := hrw.out
      exact ⟨hR.below, .inr ⟨rfl, _, R, cc, rfl, hR⟩⟩
set_option maxRecDepth 100000 in
set_option maxHeartbeats 1600000 in
theorem sRowsShared_any (A : Option Addr) (c : Nat) (x : List Int) (A2 : Option Addr) (c2 : Nat) (sl : List Int) (kw : Int) (w : World) (hx : RdL (Value.int .i64) w A x) (hs : RdL (Value.int .i64) w A2 sl) :
    Calls Try.prog 23 #[.slice A x.length c, .slice A2 sl.length c2, .int .i64 kw] w (RetRws w x sl (inB kw 1 8 && gateHR x sl)) := by
  have HX := hid hx
  have HS := hid hs
  clear hx hs
  cases h1 : inB kw 1 8 with
  | false =>
    go_enter Try.func23, Try.ntmps23
    go_wp2_with (go_at_call 78; refine (l00In_any kw 1 8 _).mono ?_; rw [h1]; rintro e w' ⟨rfl, rfl⟩)
    go_ret2
    exact ⟨Below.refl _ _, .inl ⟨by simp, rfl⟩⟩
  | true =>
    cases h2 : gateHR x sl with
    | false =>
      go_enter Try.func23, Try.ntmps23
      go_wp2_with (first | (go_at_call 78; refine (l00In_any kw 1 8 _).mono ?_; rw [h1]; rintro e w' ⟨rfl, rfl⟩) | (go_at_call 18; refine (sHashRows_any A c x A2 c2 sl _ HX.out HS.out).mono ?_; rw [h2]; rintro e w' ⟨hb, h3⟩; obtain rfl : e = .returned (.tuple #[.slice none 0 0, .bool false]) := (h3.elim (fun h => h.2) fun h => absurd h.1 (by simp)); clear h3))
      go_ret2
      exact ⟨hb, .inl ⟨by simp, rfl⟩⟩
    | true =>
      go_enter Try.func23, Try.ntmps23
      go_wp2_with (first | (go_at_call 78; refine (l00In_any kw 1 8 _).mono ?_; rw [h1]; rintro e w' ⟨rfl, rfl⟩) | (go_at_call 18; refine (sHashRows_any A c x A2 c2 sl _ HX.out HS.out).mono ?_; rw [h2]; rintro e w' ⟨hb, h3⟩; obtain ⟨v, R, cc, rfl, hR⟩ : ∃ v R cc, e = .returned (.tuple #[v, .bool true]) ∧ Rws w x sl v sl.length R cc w' := (h3.elim (fun h => absurd h.1 (by simp)) fun h => h.2); clear h3))
      go_ret2
      exact ⟨hb, .inr ⟨by simp, v, R, cc, rfl, hR⟩⟩
end Go.Proofs.Ytmmolicodlmlkaa
namespace Go.Proofs.Ytmmolicodlmlkaa.Ph
open Go.Conc Go.ConcN Go.RowKit Go.Conc.Lib Go.ConcR.Gen Go.ConcN.Gen
open Go.ConcR (KK wgBlock WgAt stA smA rd wr mk DC0 Payload)
open Go.Proofs.Ytmmolicodlmlkaa.Rel
set_option linter.unusedVariables false
set_option linter.unusedSimpArgs false

/-- The rows. -/
def rowsOf (x sl : List Int) : List (List Int) := sl.map fun s => rowH x s.toNat x.length
theorem rowsOf_length (x sl : List Int) : (rowsOf x sl).length = sl.length := by simp [rowsOf]
theorem rowsOf_at (x sl : List Int) (o : Nat) (h : o < (rowsOf x sl).length) : (rowsOf x sl)[o] = rowH x (sl.getD o 0).toNat x.length := by
  have h' : o < sl.length := by rw [rowsOf_length] at h; exact h
  simp [rowsOf, List.getD_eq_getElem?_getD, h']
def resOf (g : Bool) (x sl : List Int) : List (List Int) := if g then rowsOf x sl else []
theorem gate_eq (x sl : List Int) (kw : Int) : (Go.Proofs.Ytmmolicodlmlkaa.inB kw 1 8 && gateHR x sl) = gateRS x sl kw := by
  unfold gateHR gateRS keysQ
  by_cases h : sl.length ≤ 32
  · have h2 : (sl.length : Int) ≤ 256 := by omega
    simp only [h, h2, decide_true, Bool.true_and, Bool.and_true]
    cases Go.Proofs.Ytmmolicodlmlkaa.inB kw 1 8 <;> simp
  · simp [h]
def srFs : FuncId → Bool := fun f => [23, 18, 78, 72, 73, 74, 120, 136].contains f
theorem srOk1 : fnOk Try.prog srFs Try.f23 = true := by kernel_rfl
theorem srOk2 : fnOk Try.prog srFs Try.f18 = true := by kernel_rfl
theorem srOk3 : fnOk Try.prog srFs Try.f78 = true := by kernel_rfl
theorem srOk4 : fnOk Try.prog srFs Try.f72 = true := by kernel_rfl
theorem srOk5 : fnOk Try.prog srFs Try.f73 = true := by kernel_rfl
theorem srOk6 : fnOk Try.prog srFs Try.f74 = true := by kernel_rfl
theorem srOk7 : fnOk Try.prog srFs Try.f120 = true := by kernel_rfl
theorem srOk8 : fnOk Try.prog srFs Try.f136 = true := by kernel_rfl
theorem srFs_ok : ∀ f, srFs f = true → ∃ fn, Try.prog.funcs[f]? = some fn ∧ fnOk Try.prog srFs fn = true := by
  intro f hf
  simp [srFs] at hf
  rcases hf with rfl | rfl | rfl | rfl | rfl | rfl | rfl | rfl
  · exact ⟨_, Try.func23, srOk1⟩
  · exact ⟨_, Try.func18, srOk2⟩
  · exact ⟨_, Try.func78, srOk3⟩
  · exact ⟨_, Try.func72, srOk4⟩
  · exact ⟨_, Try.func73, srOk5⟩
  · exact ⟨_, Try.func74, srOk6⟩
  · exact ⟨_, Try.func120, srOk7⟩
  · exact ⟨_, Try.func136, srOk8⟩
section
variable {W₀ : World} {l : List Fc} {F S : Nat → Prop} {own : List ((Nat → Prop) × Fc)} {w w' wl : World} {cs : List Frame} {b₀ : Frame} {a₀ : Act} {ops₀ : Array Oper} {i₀ : Nat} {rest₀ : List Nat} {k₀ : List Item} {A A2 : Option Addr} {c c2 : Nat} {x sl : List Int} {kw : Int}
/-- Rows that a lone call has made, in company. -/
theorem rws_company {fs : FuncId → Bool} {s : Nat → Prop} {ρ : Rn} {w0 : World} {v : Value} {R : Nat → Option Addr} {cc : Nat → Nat} (hF : ∀ y, S y → y < w.heap.size) (hL : Rel.Left Try.prog (fnsQ fs w S No) w (fun b => S b ∧ ¬ No b) No ρ wl s w') (h0 : w0.heap.size = w.heap.size) (h : Rws w0 x sl v sl.length R cc wl) :
    ∃ A' c', ren ρ v = .slice A' sl.length c' ∧ SSr (fun y => w.heap.size ≤ y ∧ s y) w' A' (rowsOf x sl) := by
  have hnew : ∀ b, w.heap.size ≤ b → (fnsQ fs w S No).al b = true := fun b hb => (fnsQ_new hb).1
  have new : ∀ b, w.heap.size ≤ b → b < wl.heap.size → w.heap.size ≤ ρ.f b ∧ s (ρ.f b) := fun b h1 h2 => ⟨(left_new hL h1 h2).2, (left_new hL h1 h2).1⟩
  have lt : ∀ b, Ints wl b → b < wl.heap.size := fun b ⟨_, _, h, _⟩ => (Array.getElem?_eq_some_iff.1 h).1
  have row : ∀ o, o < sl.length → ∀ r, R o = some r → (w.heap.size ≤ (renS ρ r).block ∧ s (renS ρ r).block) ∧ IntsA w' (renS ρ r) := fun o ho r hr => by
    obtain ⟨q1, q2, _⟩ := (h.row o ho).2 r hr
    rw [h0] at q1
    rw [renS_none _ q2.2]
    exact ⟨new _ q1 (lt _ q2.1), left_ints hL (hnew _ q1) q2.1, q2.2⟩
  obtain ⟨hn, ⟨rfl, hz⟩ | ⟨g, cap, cur, rfl, hg, hcur, hnc, _, hcs, ht⟩⟩ := h.own
  · have : sl = [] := List.eq_nil_of_length_eq_zero hz
    subst this
    exact ⟨none, 0, by simp, fun a ha => (by cases ha), fun o ho => absurd ho (by simp [rowsOf])⟩
  · rw [h0] at hg
    have hgl : g < wl.heap.size := (Array.getElem?_eq_some_iff.1 hcur).1
    obtain ⟨p1, p2⟩ := left_blk hL (hnew g hg) hcur
    obtain ⟨c0, e0, s1, s2⟩ := h.spare g rfl
    rw [hcur] at s1
    injection s1 with s1
    injection s1 with s1
    subst s1
    rw [Nat.mul_one] at ht
    have hsplit : cur.toList = ((List.range sl.length).map fun o => .slice (R o) x.length (cc o)) ++ cur.toList.drop sl.length := by rw [← ht, List.take_append_drop]
    refine ⟨some ⟨ρ.f g, 0, none⟩, cap, by simp, fun a ha => ?_, fun o ho => ?_⟩
    · obtain rfl := Option.some.inj ha
      exact ⟨new g hg hgl, by simp only; rw [p1]; rfl, rfl⟩
    · have ho' : o < sl.length := by rw [rowsOf_length] at ho; exact ho
      have hco : cur[o]? = some (.slice (R o) x.length (cc o)) := by
        have : cur.toList[o]? = some (.slice (R o) x.length (cc o)) := by
          rw [hsplit, List.getElem?_append_left (by simp; exact ho')]
          simp [ho']
        simpa using this
      refine ⟨ρ.f g, 0, (R o).map (renS ρ), cc o, rfl, ?_, ?_, .inl fun r hr => ?_⟩
      · rw [rowsOf_at x sl o ho, rowH_length, Nat.zero_add]
        simp [World.cell?, p1, hco]
      · rw [rowsOf_at x sl o ho]
        have := (h.row o ho').1
        rw [h0] at this
        exact (hL.own hnew (fun y => by simp) this).1.rd
      · obtain ⟨r0, hr0, rfl⟩ := Option.map_eq_some_iff.1 hr
        exact ⟨(row o ho' r0 hr0).1, (row o ho' r0 hr0).2.plz⟩
/-- spec.RowsShared, beside leavers. -/
theorem sRows_gl (h : LH W₀ l F own S w) (h1 : RdL (Value.int .i64) w A x) (h1' : ArgP S w A) (h2 : RdL (Value.int .i64) w A2 sl) (h2' : ArgP S w A2) :
    GL Try.prog (fun t g w' => ∃ A' c' F', g = G (b₀.at (a₀.put ((ops₀[i₀]?).bind (·.dst)) (.tuple #[.slice A' (resOf (gateRS x sl kw) x sl).length c', .bool (gateRS x sl kw)])) (.inRegion ops₀ rest₀ :: k₀)) cs ∧ LH W₀ (.ss A' (resOf (gateRS x sl kw) x sl) :: l) F' own t w') S
      (G (Frame.enter Try.prog 23 #[.slice A x.length c, .slice A2 sl.length c2, .int .i64 kw] .normal) (b₀.at a₀ (.inRegion ops₀ (i₀ :: rest₀) :: k₀) :: cs)) w := by
  have hg := gl_back (b₀ := b₀) (a₀ := a₀) (ops₀ := ops₀) (i₀ := i₀) (rest₀ := rest₀) (k₀ := k₀) (cs := cs) (fun b h => h.elim) (gl_call (P := Try.prog) (fs := srFs) (v := w) (F := S) (W := No) (f := 23) (args := #[.slice A x.length c, .slice A2 sl.length c2, .int .i64 kw])
    (Q := fun u w' => ∃ w0, w0.heap.size = w.heap.size ∧ RetRws w0 x sl (gateRS x sl kw) (.returned u) w') (fun b h => h.elim) h.low zero_ok h.glob srFs_ok rfl (by
      intro z hz
      simp at hz
      rcases hz with rfl | rfl | rfl
      · exact okV_arg h.lf h1'
      · exact okV_arg h.lf h2'
      · simp) fun τ => (sRowsShared_any A c x A2 c2 sl kw { loneW (fnsQ srFs w S No) w with tape := τ, drawn := 0 } (lone_rdl h.lf h1 h1') (lone_rdl h.lf h2 h2')).mono fun e w' he => by
        rw [gate_eq] at he
        have hsz : ({ loneW (fnsQ srFs w S No) w with tape := τ, drawn := 0 } : World).heap.size = w.heap.size := loneW_size
        rcases he.2 with ⟨_, rfl⟩ | ⟨_, _, _, _, rfl, _⟩
        · exact ⟨_, hsz, he⟩
        · exact ⟨_, hsz, he⟩)
  refine Go1.widen hg ?_
  rintro t g w' ⟨s, rfl, ρ, u, wl, rfl, ⟨w0, hw0, _, hR⟩, hok, hL⟩
  have hK := lk_left h.low hL
  have hH := h.lk hK
  rcases hR with ⟨hgf, hu⟩ | ⟨hgt, v, R, cc, hu, hR⟩
  · obtain rfl : u = .tuple #[.slice none 0 0, .bool false] := by injection hu
    rw [hgf]
    exact ⟨none, 0, F, by simp [resOf], ⟨hH.tw, hH.old, hH.low, hH.glob, fun f hf => by
      rcases List.mem_cons.1 hf with rfl | hf
      · exact ⟨fun a ha => (by cases ha), fun o ho => absurd ho (by simp [resOf])⟩
      · exact hH.fc f hf, hH.sub, hH.ow, hH.dis⟩⟩
  · obtain rfl : u = .tuple #[v, .bool true] := by injection hu
    rw [hgt]
    obtain ⟨A', c', e1, hS⟩ := rws_company h.low hL hw0 hR
    refine ⟨A', c', fun y => F y ∨ (w.heap.size ≤ y ∧ s y), ?_, hH.addBase hS (fun y hy => .inr hy.2) fun q hq y hy hn => ?_⟩
    · simp only [ren_tuple, List.map_toArray, List.map_cons, List.map_nil, e1, ren_bool, resOf, if_true, rowsOf_length]
    · have := h.low y ((h.ow q hq).2.1 y hy)
      omega
end
end Go.Proofs.Ytmmolicodlmlkaa.Ph
namespace Go.Proofs.Ytmmolicodlmlkaa.Ph
open Go.Conc Go.ConcN Go.RowKit Go.Conc.Lib Go.ConcR.Gen Go.ConcN.Gen
open Go.ConcR (KK wgBlock WgAt stA smA rd wr mk DC0 Payload)
open Go.Proofs.Ytmmolicodlmlkaa.Rel
set_option linter.unusedVariables false
set_option linter.unusedSimpArgs false

section
variable {W₀ : World} {l : List Fc} {F S : Nat → Prop} {own : List ((Nat → Prop) × Fc)} {Shun : Loc → Prop} {w : World} {m : Machine} {t : Trace} {A A2 : Option Addr} {c c2 : Nat} {x sl : List Int} {kw : Int} {cs : List Frame} {b₀ : Frame} {a₀ : Act} {ops₀ : Array Oper} {i₀ : Nat} {rest₀ : List Nat} {k₀ : List Item}
theorem argp_sub {F F' : Nat → Prop} (h : ArgP F w A) (hs : ∀ y, F y → F' y) : ArgP F' w A := fun a ha => ⟨hs _ (h a ha).1, (h a ha).2⟩
theorem argb_sub {F F' : Nat → Prop} (h : ArgB F w A) (hs : ∀ y, F y → F' y) : ArgB F' w A := fun a ha => ⟨hs _ (h a ha).1, (h a ha).2⟩
theorem res_length (g : Bool) (x sl : List Int) (h : g = true) : (resOf g x sl).length = sl.length := by simp [resOf, h, rowsOf_length]
/-- Rows that the program has made are its caller's own. -/
theorem sso_of {G' : Nat → Prop} {C lo : Nat} {cells : Array Value} {w' : World} (hC : G' C) (hc : w'.heap[C]? = some (.cells cells 22 (0, 0))) (hn : cells.size = sl.length) (hR : RowsIn lo C x sl (fun o => o < sl.length) (fun b => G' b ∧ b ≠ C) w') :
    (Fc.sso (some ⟨C, 0, none⟩) (rowsOf x sl)).holds G' w' := by
  obtain ⟨R, cc, h1, h2⟩ := hR
  have hlen := rowsOf_length x sl
  have hcell : ∀ o (ho : o < (rowsOf x sl).length), w'.cell? ⟨C, o, none⟩ = some (.slice (R o) (rowsOf x sl)[o].length (cc o)) ∧ OwnS (Value.int .i64) w' 0 2 (R o) (rowsOf x sl)[o] := fun o ho => by
    obtain ⟨q1, q2, _⟩ := h1 o (by rw [hlen] at ho; exact ho)
    rw [rowsOf_at x sl o ho, rowH_length]
    exact ⟨q1, q2.mono (Nat.zero_le _)⟩
  have hfree : ∀ o, o < sl.length → ∀ r, R o = some r → (G' r.block ∧ r.block ≠ C) ∧ IntsA w' r := fun o ho r hr => (h1 o ho).2.2 r hr
  refine ⟨⟨fun a ha => ?_, fun o ho => ⟨C, 0, R o, cc o, rfl, by rw [Nat.zero_add]; exact (hcell o ho).1, (hcell o ho).2.rd, .inl fun r hr => ?_⟩⟩, R, cc, fun o ho => ⟨C, rfl, (hcell o ho).1, (hcell o ho).2, fun r hr => ⟨(hfree o (by rw [hlen] at ho; exact ho) r hr).1.1, (hfree o (by rw [hlen] at ho; exact ho) r hr).2⟩⟩, fun o o' a a' ho ho' => h2 o o' a a' (by rw [hlen] at ho; exact ho) (by rw [hlen] at ho'; exact ho'), fun o a c ho ha hc' => ?_⟩
  · obtain rfl := Option.some.inj ha
    exact ⟨hC, by simp only; rw [hc]; rfl, rfl⟩
  · obtain ⟨q1, q2⟩ := hfree o (by rw [hlen] at ho; exact ho) r hr
    exact ⟨q1.1, q2.plz⟩
  · obtain rfl := Option.some.inj hc'
    exact (hfree o (by rw [hlen] at ho; exact ho) a ha).1.2
/-- ████ impl.RowsShared, CALLED BY A LAW. ████ -/
theorem rows_at (h : At Try.prog Shun (G (Frame.enter Try.prog 24 #[.slice A x.length c, .slice A2 sl.length c2, .int .i64 kw] .normal) (b₀.at a₀ (.inRegion ops₀ (i₀ :: rest₀) :: k₀) :: cs)) w m t) (hH : LH W₀ l F own S w) (hS : ∀ y, S y → FreeB Shun w y)
    (hx : RdL (Value.int .i64) w A x) (hs : RdL (Value.int .i64) w A2 sl) (hxn : x.length ≤ 1048576) (hsn : sl.length ≤ 1048576) (hA : ArgP S w A) (hA2 : ArgP S w A2) :
    ∃ K m' t' w' Shun' A' c' G', runNT Try.prog K m t = (.next m', t') ∧ At Try.prog Shun' (G (b₀.at (a₀.put ((ops₀[i₀]?).bind (·.dst)) (.tuple #[.slice A' (resOf (gateRS x sl kw) x sl).length c', .bool (gateRS x sl kw)])) (.inRegion ops₀ rest₀ :: k₀)) cs) w' m' t' ∧
      LH W₀ l F ((G', .sso A' (resOf (gateRS x sl kw) x sl)) :: own) (FreeB Shun' w') w' := by
  obtain ⟨K, m', t', w', Shun', v, hr, hAt, hg, hR⟩ := rows_machine h hH.glob hx hs hxn hsn (argp_sub hA hS) (argp_sub hA2 hS)
  have hH1 := (hH.wide hS fun y hy => hy.1).grow hg
  rcases hR with ⟨e, rfl⟩ | ⟨e, C, cells, rfl, hC1, hC2, hC3, hC4, hR⟩
  · refine ⟨K, m', t', w', Shun', none, 0, fun _ => False, hr, ?_, ?_⟩
    · rw [e]; exact hAt
    · rw [e]
      exact hH1.addOwn ⟨⟨fun a ha => (by cases ha), fun o ho => absurd ho (by simp [resOf])⟩, fun _ => none, fun _ => 0, fun o ho => absurd ho (by simp [resOf]), fun _ _ _ _ ho => absurd ho (by simp [resOf]), fun _ _ _ ho => absurd ho (by simp [resOf])⟩ (fun y hy => hy.elim) (fun y _ hy => hy) fun q hq y _ hy => hy
  · refine ⟨K, m', t', w', Shun', some ⟨C, 0, none⟩, sl.length, fun y => w.heap.size ≤ y ∧ FreeB Shun' w' y, hr, ?_, ?_⟩
    · rw [e, res_length true x sl rfl]; exact hAt
    · rw [e]
      refine hH1.addOwn (sso_of ⟨hC1, hC2⟩ hC3 hC4 (hR.stay (mine := fun _ => True) (fun _ _ => rfl) (.refl _ _ _) (fun _ _ => trivial) fun b hb => ⟨⟨hb.1, hb.2.2⟩, hb.2.1⟩)) (fun y hy => hy.2) (fun y hy hn => ?_) fun q hq y hy hn => ?_
      · have := hH.low y (hH.sub y hy)
        omega
      · have := hH.low y ((hH.ow q hq).2.1 y hy)
        omega
end
/-- Alone, at the beginning. -/
theorem at_start {P : Program} {g : Goroutine} {w : World} : At P (fun _ => False) g w (solo g w) #[] := by
  refine ⟨⟨#[g], none, fun _ => 0, by rw [solo_eq_crowd], rfl, ⟨leavers_one _ _, past_nil.mono (Nat.zero_le _), by simp⟩⟩, fun l h => h.elim⟩
end Go.Proofs.Ytmmolicodlmlkaa.Ph
