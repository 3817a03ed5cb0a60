/-
  Parts of the proof: FnExactCellsShared beside leavers: its pieces; one good run. A slice of slices of integers that came in, opened: it may be looked at, and so may its rows; an empty row may lie anywhere. No condition.
-/
import Derived.Test.YtmmolicodlmlkaaVM
import Derived.Deep.Slices
import Derived.Test.YtmmolicodlmlkaaVG
import Derived.Test.YtmmolicodlmlkaaVK
set_option linter.unusedVariables false
set_option linter.unusedSimpArgs false
namespace Go.Proofs.Ytmmolicodlmlkaa.Ph
open Go.Conc Go.ConcN Go.RowKit Go.Conc.Lib Go.ConcR.Gen Go.ConcN.Gen
open Go.ConcR (KK wgBlock WgAt stA smA rd wr mk DC0 Payload)
open Go.Proofs.Ytmmolicodlmlkaa.Rel
set_option linter.unusedVariables false
set_option linter.unusedSimpArgs false

theorem nmv_toSS : (Try.f27.name == "runtime.NumGoroutine") = false := by kernel_rfl
theorem nmv_sCells : (Try.f26.name == "runtime.NumGoroutine") = false := by kernel_rfl
theorem nmv_iCells : (Try.f28.name == "runtime.NumGoroutine") = false := by kernel_rfl
theorem nmv_eqSS : (Try.f20.name == "runtime.NumGoroutine") = false := by kernel_rfl
theorem nmv_markSS : (Try.f21.name == "runtime.NumGoroutine") = false := by kernel_rfl
def szFs : FuncId → Bool := fun f => [25, 84].contains f
theorem szFs_0 : fnOk Try.prog szFs Try.f25 = true := by kernel_rfl
theorem szFs_1 : fnOk Try.prog szFs Try.f84 = true := by kernel_rfl
theorem szFs_ok : ∀ f, szFs f = true → ∃ fn, Try.prog.funcs[f]? = some fn ∧ fnOk Try.prog szFs fn = true := by
  intro f hf
  simp [szFs] at hf
  rcases hf with rfl | rfl
  · exact ⟨_, Try.func25, szFs_0⟩
  · exact ⟨_, Try.func84, szFs_1⟩
def ecFs : FuncId → Bool := fun f => [15, 16, 17, 29, 30, 31].contains f
theorem ecFs_0 : fnOk Try.prog ecFs Try.f15 = true := by kernel_rfl
theorem ecFs_1 : fnOk Try.prog ecFs Try.f16 = true := by kernel_rfl
theorem ecFs_2 : fnOk Try.prog ecFs Try.f17 = true := by kernel_rfl
theorem ecFs_3 : fnOk Try.prog ecFs Try.f29 = true := by kernel_rfl
theorem ecFs_4 : fnOk Try.prog ecFs Try.f30 = true := by kernel_rfl
theorem ecFs_5 : fnOk Try.prog ecFs Try.f31 = true := by kernel_rfl
theorem ecFs_ok : ∀ f, ecFs f = true → ∃ fn, Try.prog.funcs[f]? = some fn ∧ fnOk Try.prog ecFs fn = true := by
  intro f hf
  simp [ecFs] at hf
  rcases hf with rfl | rfl | rfl | rfl | rfl | rfl
  · exact ⟨_, Try.func15, ecFs_0⟩
  · exact ⟨_, Try.func16, ecFs_1⟩
  · exact ⟨_, Try.func17, ecFs_2⟩
  · exact ⟨_, Try.func29, ecFs_3⟩
  · exact ⟨_, Try.func30, ecFs_4⟩
  · exact ⟨_, Try.func31, ecFs_5⟩
theorem vl_spine : spineOk Try.prog ⟨szFs, fun _ => false, fun _ => false, fun _ => false⟩ 4 vbody = true := by kernel_rfl
theorem vy5_ok : opsOk Try.prog ⟨fun _ => false, fun _ => false, fun _ => false, fun _ => false⟩ vy5 [7, 8, 9, 10, 11, 12] = true := by kernel_rfl
theorem vc6_spine : spineOk Try.prog ⟨fun _ => false, fun _ => false, fun _ => false, fun _ => false⟩ 0 vc6 = true := by kernel_rfl
theorem vy7_ok : opsOk Try.prog ⟨ecFs, fun _ => false, fun _ => false, fun _ => false⟩ vy7 [6, 7, 8, 9, 10, 11] = true := by kernel_rfl
theorem vc8_spine : spineOk Try.prog ⟨ecFs, fun _ => false, fun _ => false, fun _ => false⟩ 1 vc8 = true := by kernel_rfl
theorem vc14_spine : spineOk Try.prog ⟨ecFs, fun _ => false, fun _ => false, fun _ => false⟩ 7 vc14 = true := by kernel_rfl
theorem vy24_ok : opsOk Try.prog ⟨ecFs, fun _ => false, fun _ => false, fun _ => false⟩ vy24 [7, 8, 9, 10, 11, 12] = true := by kernel_rfl
theorem vc25_ok : codeOk Try.prog ⟨ecFs, fun _ => false, fun _ => false, fun _ => false⟩ vc25 = true := by kernel_rfl
set_option maxRecDepth 100000 in
theorem vput1 (T : Nat → Value) (v0 v1 v2 v3 v4 v : Value) : Act.put ⟨arrV T v0 v1 v2 v3 v4, []⟩ ((vy5[6]?).bind (·.dst)) v = ⟨arrV1 T v0 v1 v2 v3 v4 v, []⟩ := by kernel_rfl
set_option maxRecDepth 100000 in
theorem vput4 (T : Nat → Value) (v0 v1 v2 v3 v4 v12 v13 v14 v : Value) : Act.put ⟨arrV3 T v0 v1 v2 v3 v4 v12 v13 v14, []⟩ ((vy7[5]?).bind (·.dst)) v = ⟨arrV4 T v0 v1 v2 v3 v4 v12 v13 v14 v, []⟩ := by kernel_rfl
set_option maxRecDepth 100000 in
theorem vput8 (T : Nat → Value) (v0 v1 v2 v3 v4 v12 v13 v15 v18 v : Value) : Act.put ⟨arrV7 T v0 v1 v2 v3 v4 v12 v13 v15 v18, []⟩ ((vy24[6]?).bind (·.dst)) v = ⟨arrV8 T v0 v1 v2 v3 v4 v12 v13 v15 v18 v, []⟩ := by kernel_rfl
/-! ### lone worlds -/
section
variable {S W : Nat → Prop} {w : World} {fs : FuncId → Bool} {A : Option Addr}
theorem okV_argW (hl : ∀ y, S y → y < w.heap.size) (hA : ArgP S w A) (n c : Nat) : okV (fnsQ fs w S W) w.heap.size (.slice A n c) = true := by
  cases A with
  | none => simp
  | some a =>
    rw [okV_sliceA _ _ _ _ (hA a rfl).2.2]
    exact fnsQ_ok hl (hA a rfl).1 (hA a rfl).2.1
theorem lone_bx {b n c : Nat} {d0 d1 d2 : Int} {t : TypeId} (hl : ∀ y, S y → y < w.heap.size) (hS : S b) (hn : ¬ W b) (hb : w.heap[b]? = some (.cells #[.int .i64 d0, .int .i64 d1, .int .i64 d2, .slice A n c] t (0, 0))) (hA : ArgP S w A) : Bx (loneW (fnsQ fs w S W) w) b d0 d1 d2 A n c := by
  have key : ∀ i u, (#[.int .i64 d0, .int .i64 d1, .int .i64 d2, .slice A n c] : Array Value)[i]? = some u → okV (fnsQ fs w S W) w.heap.size u = true → (loneW (fnsQ fs w S W) w).cell? ⟨b, i, none⟩ = some u := fun i u h1 h2 =>
    loneW_at (a := ⟨b, i, none⟩) (by simp only [World.cell?, hb]; exact h1) rfl (fnsQ_old (hl _ hS) hS (by rw [hb]; rfl)) (fnsQ_rd (hl _ hS) hn) h2
  exact ⟨key 0 _ rfl (by simp), key 1 _ rfl (by simp), key 2 _ rfl (by simp), key 3 _ rfl (okV_argW hl hA n c)⟩
theorem lone_rdlW {x : List Int} (hl : ∀ y, S y → y < w.heap.size) (hx : RdL (Value.int .i64) w A x) (hA : ArgP S w A) (hn : ∀ a, A = some a → ¬ W a.block) : RdL (Value.int .i64) (loneW (fnsQ fs w S W) w) A x :=
  rdl_look hx (fun _ => by simp) fun b o _ e => ⟨rfl, fnsQ_old (hl _ (hA _ e).1) (hA _ e).1 (hA _ e).2.1, fnsQ_rd (hl _ (hA _ e).1) (hn _ e)⟩
theorem okV_boxW {b : Nat} (hl : ∀ y, S y → y < w.heap.size) (hS : S b) (hp : plainO w.heap[b]? = true) : okV (fnsQ fs w S W) w.heap.size (ptrB b) = true := by rw [okV_pointer]; exact fnsQ_ok hl hS hp
theorem arg_ren {P : Program} {Rd S0 s : Nat → Prop} {ρ : Rn} {wl w' : World} (hl : ∀ y, S y → y < w.heap.size) (hL : Rel.Left P (fnsQ fs w S W) w Rd S0 ρ wl s w') (hA : ArgP S w A) : A.map (renS ρ) = A := by
  cases A with
  | none => rfl
  | some a =>
    have := hL.id a.block (hl _ (hA a rfl).1)
    rw [Option.map_some, renS_none _ (hA a rfl).2.2]
    simp only [renA, this]
end
section
variable {W₀ : World} {l : List Fc} {F S : Nat → Prop} {own : List ((Nat → Prop) × Fc)} {w : World} {a0 a1 a2 : Int} {A : Option Addr} {c : Nat} {xss : List (List Int)} {kw : Int}
/-- A box that a lone piece has made. -/
theorem LH.newBox {fs : FuncId → Bool} {ρ : Rn} {s : Nat → Prop} {wl w' : World} {b n c : Nat} {d0 d1 d2 : Int} {A : Option Addr} (h : LH W₀ l F own S w) (hL : Rel.Left Try.prog (fnsQ fs w S No) w (fun b => S b ∧ ¬ No b) No ρ wl s w') (hA : ArgP S w A) (hb1 : w.heap.size ≤ b) (hb2 : wl.heap[b]? = some (.cells #[.int .i64 d0, .int .i64 d1, .int .i64 d2, .slice A n c] 37 (0, 0))) :
    LH W₀ (.box (ρ.f b) #[.int .i64 d0, .int .i64 d1, .int .i64 d2, .slice A n c] 37 :: l) (fun y => F y ∨ y = ρ.f b) own (fun b => (S b ∧ ¬ No b) ∨ s b) w' := by
  have p1 := (left_blk hL (fnsQ_new hb1).1 hb2).1
  simp only [List.map_toArray, List.map_cons, List.map_nil, ren_slice, ren_int, arg_ren h.low hL hA] at p1
  have m1 := left_new hL hb1 (Array.getElem?_eq_some_iff.1 hb2).1
  refine (h.lk (lk_left h.low hL)).addBase (f := .box (ρ.f b) #[.int .i64 d0, .int .i64 d1, .int .i64 d2, .slice A n c] 37) (N := fun y => y = ρ.f b) ⟨rfl, p1⟩ (fun y hy => by subst hy; exact .inr m1.1) (fun q hq y hy e => ?_)
  subst e
  have := h.low _ ((h.ow q hq).2.1 _ hy)
  have := m1.2
  omega
set_option maxRecDepth 100000 in
set_option maxHeartbeats 8000000 in
theorem v_ends (hF : LH W₀ [.ss A xss] F [] S w) (hn : xss.length ≤ 9223372036854775807) (hl : ∀ e ∈ xss, e.length ≤ 9223372036854775807) (h : ¬ (xss.length : Int) + sumLL xss ≤ 1048576) : GL Try.prog (LawEnd W₀) S (G (Frame.enter Try.prog 6 #[.int .i64 a0, .int .i64 a1, .int .i64 a2, .slice A xss.length c, .int .i64 kw] .normal) []) w := by
  have ha : ∀ z ∈ (actV a0 a1 a2 A xss.length c kw).tmps, okV (fnsQ szFs w S No) w.heap.size z = true := by
    intro z hz
    simp [arrV, uns] at hz
    rcases hz with rfl | rfl | rfl | rfl | rfl | rfl
    · simp
    · simp
    · simp
    · exact okV_ss hF.lf (hF.base (f := .ss A xss) (by simp))
    · simp
    · exact okV_undef _ _
  rw [vl_enter]
  exact law_ret hF Try.func6 rfl (by kernel_rfl) (gl_ret (fs := szFs) (W := No) (fun b h => h.elim) hF.low zero_ok hF.glob szFs_ok Try.func6 vl_results vl_spine rfl ha fun τ => vl_gate a0 a1 a2 A c xss kw _ (lone_ss hF.lf (hF.base (f := .ss A xss) (by simp))) hn hl h)
set_option maxRecDepth 100000 in
set_option maxHeartbeats 8000000 in
theorem v_a (hF : LH W₀ [.ss A xss] F [] S w) (hn : xss.length ≤ 1048576) (hl : ∀ e ∈ xss, e.length ≤ 1048576) (h : (xss.length : Int) + sumLL xss ≤ 1048576) :
    GL Try.prog (fun t g w' => ∃ T Aw cw F', g = G ((base 6).at (Act.put ⟨arrV T (.int .i64 a0) (.int .i64 a1) (.int .i64 a2) (.slice A xss.length c) (.int .i64 kw), []⟩ ((vy5[6]?).bind (·.dst)) (.tuple #[cellV (hdOf (gateCS a0 a1 a2 xss kw) a0) (hdOf (gateCS a0 a1 a2 xss kw) a1) (hdOf (gateCS a0 a1 a2 xss kw) a2) Aw (cntOf (gateCS a0 a1 a2 xss kw) a0 a1 a2 xss).length cw, .bool (gateCS a0 a1 a2 xss kw)])) [.inRegion vy5 [7, 8, 9, 10, 11, 12], .code vc6]) [] ∧ LH W₀ [.arg Aw (cntOf (gateCS a0 a1 a2 xss kw) a0 a1 a2 xss), .ss A xss] F' [] t w') S (G (Frame.enter Try.prog 6 #[.int .i64 a0, .int .i64 a1, .int .i64 a2, .slice A xss.length c, .int .i64 kw] .normal) []) w := by
  have rl : ∀ {l : List Fc} {F : Nat → Prop} {own : List ((Nat → Prop) × Fc)} {S : Nat → Prop} {a b : World}, LH W₀ l F own S a → RS No S a b → LH W₀ l F own S b := fun h r => h.rely r
  have ha : ∀ z ∈ (actV a0 a1 a2 A xss.length c kw).tmps, okV (fnsQ szFs w S No) w.heap.size z = true := by
    intro z hz
    simp [arrV, uns] at hz
    rcases hz with rfl | rfl | rfl | rfl | rfl | rfl
    · simp
    · simp
    · simp
    · exact okV_ss hF.lf (hF.base (f := .ss A xss) (by simp))
    · simp
    · exact okV_undef _ _
  rw [vl_enter]
  have hcut := gl_cut (P := Try.prog) (fs := szFs) (v := w) (F := S) (W := No) (cs := []) (f := 6) (n := 4) (fun b h => h.elim) hF.low zero_ok hF.glob szFs_ok vl_spine rfl ha fun τ => vl_reach a0 a1 a2 A c xss kw _ (lone_ss hF.lf (hF.base (f := .ss A xss) (by simp))) (by omega) (fun e he => by have := hl e he; omega) h
  refine Go1.bind (fun _ a => RS.refl a) hcut ?_
  rintro t g w' ⟨s, rfl, ρ, a', wl, rfl, ⟨hd, ht⟩, hok, hL⟩
  have ea := arg_ren hF.low hL (hF.base (f := .ss A xss) (by simp)).1
  replace hF := hF.lk (lk_left hF.low hL)
  generalize (fun b => (S b ∧ ¬ No b) ∨ s b) = S' at hF ⊢
  rw [ht]
  generalize (fun i => a'.tmps.getD i undef) = T
  simp only [arrV, List.map_toArray, List.map_cons, List.map_nil, ren_slice, ren_int, ea]
  generalize ren ρ = rr
  clear hcut ha hok hL ht hd ea
  refine gl_go (n := 100) ?_
  simp only [vbody, Try.f6, cut]
  (u_in rl hF; rw [stepG_seq]; simp only [goes_go]; refine ⟨by (refine de1_none ?_; intro e he; simp at he), ?_⟩)
  (u_in rl hF; rw [stepG_region]; simp only [goes_go, List.size_toArray, List.length_cons, List.length_nil, Nat.reduceAdd, Nat.zero_add, List.range, List.range.loop]; refine ⟨by (refine de1_none ?_; intro e he; simp at he), ?_⟩)
  u_in rl hF
  refine goes_oper_k rfl rfl (by k_ne) (fun K hK => ?_)
  go_simp
  refine hK _ _ ⟨?_, ?_⟩
  · refine de1_none ?_
    intro e he
    have hm := mem_listed he
    simp [go_sem, *] at hm
  clear hK K
  try w_num
  u_in rl hF
  refine goes_oper_k rfl rfl (by k_ne) (fun K hK => ?_)
  go_simp
  refine hK _ _ ⟨?_, ?_⟩
  · refine de1_none ?_
    intro e he
    have hm := mem_listed he
    simp [go_sem, *] at hm
  clear hK K
  try w_num
  u_in rl hF
  refine goes_oper_k rfl rfl (by k_ne) (fun K hK => ?_)
  go_simp
  refine hK _ _ ⟨?_, ?_⟩
  · refine de1_none ?_
    intro e he
    have hm := mem_listed he
    simp [go_sem, *] at hm
  clear hK K
  try w_num
  u_in rl hF
  refine goes_oper_k rfl rfl (by k_ne) (fun K hK => ?_)
  go_simp
  refine hK _ _ ⟨?_, ?_⟩
  · refine de1_none ?_
    intro e he
    have hm := mem_listed he
    simp [go_sem, *] at hm
  clear hK K
  try w_num
  u_in rl hF
  refine goes_call rfl rfl (by k_ne) rfl Try.func27 nmv_toSS rfl ⟨by (refine de1_none ?_; intro e he; simp at he), ?_⟩
  rw [← enter_at _ Try.func27 rfl]
  refine Goes.stop fun w₁ h₁ => ?_
  replace hF := rl hF h₁
  clear h₁
  walk_nrm
  refine Go1.bind (fun _ a => RS.refl a) (toSS_gl hF (hF.base (f := .ss A xss) (by simp)) hn hl) ?_
  rintro t g w' ⟨Ct, Gt, rfl, hF2⟩
  replace hF := hF2
  clear hF2
  refine gl_go (n := 100) ?_
  walk_nrm
  u_in rl hF
  refine goes_oper_k rfl rfl (by k_ne) (fun K hK => ?_)
  go_simp
  refine hK _ _ ⟨?_, ?_⟩
  · refine de1_none ?_
    intro e he
    have hm := mem_listed he
    simp [go_sem, *] at hm
  clear hK K
  try w_num
  u_in rl hF
  refine goes_call rfl rfl (by k_ne) rfl Try.func26 nmv_sCells rfl ⟨by (refine de1_none ?_; intro e he; simp at he), ?_⟩
  rw [← enter_at _ Try.func26 rfl]
  refine Goes.stop fun w₁ h₁ => ?_
  replace hF := rl hF h₁
  clear h₁
  walk_nrm
  refine Go1.bind (fun _ a => RS.refl a) (sCells_gl hF (hF.mine (p := (Gt, .sso (some ⟨Ct, 0, none⟩) xss)) (.head _)).1) ?_
  rintro t g w' ⟨Aw, cw, F', rfl, hF2⟩
  replace hF := hF2.drop
  clear hF2
  refine Go1.stop fun w₂ h₂ => ⟨fun i => Array.getD #[.int .i64 a0, .int .i64 a1, .int .i64 a2, .slice A xss.length c, .int .i64 kw, rr (T 5), rr (T 6), rr (T 7), rr (T 8), rr (T 9), rr (T 10), rr (T 11), rr (T 12), rr (T 13), rr (T 14), rr (T 15), rr (T 16), rr (T 17), rr (T 18), rr (T 19), rr (T 20), rr (T 21), rr (T 22), rr (T 23), rr (T 24), rr (T 25), rr (T 26), rr (T 27), .int .i64 a0, .int .i64 a1, .int .i64 a2, .slice A xss.length c, .slice (some ⟨Ct, 0, none⟩) xss.length xss.length, .int .i64 kw, rr (T 34), rr (T 35), rr (T 36), rr (T 37), rr (T 38), rr (T 39), rr (T 40), rr (T 41), rr (T 42), rr (T 43), rr (T 44), rr (T 45), rr (T 46), rr (T 47), rr (T 48), rr (T 49), rr (T 50), rr (T 51), rr (T 52), rr (T 53), rr (T 54), rr (T 55), rr (T 56), rr (T 57), rr (T 58), rr (T 59), rr (T 60), rr (T 61), rr (T 62), rr (T 63), rr (T 64), rr (T 65), rr (T 66), rr (T 67), rr (T 68), rr (T 69), rr (T 70), rr (T 71), rr (T 72), rr (T 73), rr (T 74), rr (T 75), rr (T 76), rr (T 77), rr (T 78), rr (T 79), rr (T 80), rr (T 81), rr (T 82), rr (T 83), rr (T 84), rr (T 85), rr (T 86), rr (T 87), rr (T 88), rr (T 89), rr (T 90), rr (T 91), rr (T 92), rr (T 93), rr (T 94), rr (T 95), rr (T 96), rr (T 97), rr (T 98), rr (T 99), rr (T 100), rr (T 101), rr (T 102), rr (T 103), rr (T 104), rr (T 105), rr (T 106), rr (T 107), rr (T 108), rr (T 109), rr (T 110), rr (T 111), rr (T 112), rr (T 113), rr (T 114), rr (T 115)] i undef, Aw, cw, F', by kernel_rfl, rl hF h₂⟩
set_option maxRecDepth 100000 in
set_option maxHeartbeats 8000000 in
theorem v_b {T : Nat → Value} {Aw : Option Addr} {cw : Nat} {ys : List Int} {d0 d1 d2 : Int} {g : Bool} (hF : LH W₀ [.arg Aw ys, .ss A xss] F [] S w) (hn : xss.length ≤ 1048576) (hl : ∀ e ∈ xss, e.length ≤ 1048576) :
    GL Try.prog (fun t gg w' => ∃ T b C3 G3 F', gg = G (Frame.enter Try.prog 28 #[.int .i64 a0, .int .i64 a1, .int .i64 a2, .slice (some ⟨C3, 0, none⟩) xss.length xss.length, .int .i64 kw] .normal) [(base 6).at ⟨arrV3 T (.int .i64 a0) (.int .i64 a1) (.int .i64 a2) (.slice A xss.length c) (.int .i64 kw) (ptrB b) (.bool g) (.slice (some ⟨C3, 0, none⟩) xss.length xss.length), []⟩ [.inRegion vy7 [5, 6, 7, 8, 9, 10, 11], .code vc8]] ∧
      LH W₀ [.box b #[.int .i64 d0, .int .i64 d1, .int .i64 d2, .slice Aw ys.length cw] 37, .arg Aw ys, .ss A xss] F' [(G3, .sso (some ⟨C3, 0, none⟩) xss)] t w') S
      (G ((base 6).at (Act.put ⟨arrV T (.int .i64 a0) (.int .i64 a1) (.int .i64 a2) (.slice A xss.length c) (.int .i64 kw), []⟩ ((vy5[6]?).bind (·.dst)) (.tuple #[cellV d0 d1 d2 Aw ys.length cw, .bool g])) [.inRegion vy5 [7, 8, 9, 10, 11, 12], .code vc6]) []) w := by
  have rl : ∀ {l : List Fc} {F : Nat → Prop} {own : List ((Nat → Prop) × Fc)} {S : Nat → Prop} {a b : World}, LH W₀ l F own S a → RS No S a b → LH W₀ l F own S b := fun h r => h.rely r
  rw [vput1]
  have fA := hF.base (f := .ss A xss) (by simp)
  have fW := hF.base (f := .arg Aw ys) (by simp)
  have okW : okV (fnsQ (fun _ => false) w S No) w.heap.size (.tuple #[cellV d0 d1 d2 Aw ys.length cw, .bool g]) = true := by
    have := okV_argW (fs := (fun _ => false)) (W := No) hF.low fW.2 ys.length cw
    simp [okV_tuple, okV_agg, this]
  have hcut := gl_cutM (P := Try.prog) (fs := (fun _ => false)) (v := w) (F := S) (W := No) (cs := []) (f := 6) (n := 0) (c := vc6) (ops := vy5) (rest := [7, 8, 9, 10, 11, 12]) (fun b h => h.elim) hF.low zero_ok hF.glob (fun f h => by cases h) vc6_spine vy5_ok (Pre := fun a' w' => a'.defers = [] ∧ ∃ b, a'.tmps = arrV2 (fun i => a'.tmps.getD i undef) (.int .i64 a0) (.int .i64 a1) (.int .i64 a2) (.slice A xss.length c) (.int .i64 kw) (ptrB b) (.bool g) ∧ w.heap.size ≤ b ∧ w'.heap[b]? = some (.cells #[.int .i64 d0, .int .i64 d1, .int .i64 d2, .slice Aw ys.length cw] 37 (0, 0))) (a := ⟨arrV1 T (.int .i64 a0) (.int .i64 a1) (.int .i64 a2) (.slice A xss.length c) (.int .i64 kw) (.tuple #[cellV d0 d1 d2 Aw ys.length cw, .bool g]), []⟩) rfl fun τ => by
    rw [abs_arrV1, absV_same (.int .i64 a0) (by simp), absV_same (.int .i64 a1) (by simp), absV_same (.int .i64 a2) (by simp), absV_same (.int .i64 kw) (by simp), absV_same (.slice A xss.length c) (okV_argW hF.low fA.1 _ _), absV_same _ okW]
    have h := v_mid5 (fun i => absV (fnsQ (fun _ => false) w S No) w.heap.size (T i)) (.int .i64 a0) (.int .i64 a1) (.int .i64 a2) (.slice A xss.length c) (.int .i64 kw) d0 d1 d2 Aw ys.length cw g { loneW (fnsQ (fun _ => false) w S No) w with tape := τ, drawn := 0 }
    have e : ({ loneW (fnsQ (fun _ => false) w S No) w with tape := τ, drawn := 0 } : World).heap.size = w.heap.size := loneW_size
    rw [e] at h
    exact h
  refine Go1.bind (fun _ a => RS.refl a) hcut ?_
  rintro t gg w' ⟨s, rfl, ρ, a', wl, rfl, ⟨hd, b, ht, hb1, hb2⟩, hok, hL⟩
  have ea := arg_ren hF.low hL fA.1
  replace hF := hF.newBox hL fW.2 hb1 hb2
  generalize (fun b => (S b ∧ ¬ No b) ∨ s b) = S' at hF ⊢
  rw [ht]
  generalize (fun i => a'.tmps.getD i undef) = T
  simp only [arrV2, List.map_toArray, List.map_cons, List.map_nil, ren_slice, ren_int, ren_bool, ren_pointer, Option.map_some, renS_lit, renA, ea]
  generalize ρ.f b = b at hF ⊢
  generalize ren ρ = rr
  clear hcut hok hL ht hd ea hb1 hb2 okW fA fW
  refine gl_go (n := 100) ?_
  simp only [vc6, Try.f6, cut]
  (u_in rl hF; rw [stepG_seq]; simp only [goes_go]; refine ⟨by (refine de1_none ?_; intro e he; simp at he), ?_⟩)
  (u_in rl hF; rw [stepG_region]; simp only [goes_go, List.size_toArray, List.length_cons, List.length_nil, Nat.reduceAdd, Nat.zero_add, List.range, List.range.loop]; refine ⟨by (refine de1_none ?_; intro e he; simp at he), ?_⟩)
  u_in rl hF
  refine goes_oper_k rfl rfl (by k_ne) (fun K hK => ?_)
  go_simp
  refine hK _ _ ⟨?_, ?_⟩
  · refine de1_none ?_
    intro e he
    have hm := mem_listed he
    simp [go_sem, *] at hm
  clear hK K
  try w_num
  u_in rl hF
  refine goes_call rfl rfl (by k_ne) rfl Try.func27 nmv_toSS rfl ⟨by (refine de1_none ?_; intro e he; simp at he), ?_⟩
  rw [← enter_at _ Try.func27 rfl]
  refine Goes.stop fun w₁ h₁ => ?_
  replace hF := rl hF h₁
  clear h₁
  walk_nrm
  refine Go1.bind (fun _ a => RS.refl a) (toSS_gl hF (hF.base (f := .ss A xss) (by simp)) hn hl) ?_
  rintro t g w' ⟨C3, G3, rfl, hF2⟩
  replace hF := hF2
  clear hF2
  refine gl_go (n := 100) ?_
  walk_nrm
  u_in rl hF
  refine goes_oper_k rfl rfl (by k_ne) (fun K hK => ?_)
  go_simp
  refine hK _ _ ⟨?_, ?_⟩
  · refine de1_none ?_
    intro e he
    have hm := mem_listed he
    simp [go_sem, *] at hm
  clear hK K
  try w_num
  (u_in rl hF; rw [stepG_region_end]; simp only [goes_go]; refine ⟨by (refine de1_none ?_; intro e he; simp at he), ?_⟩)
  (u_in rl hF; rw [stepG_seq]; simp only [goes_go]; refine ⟨by (refine de1_none ?_; intro e he; simp at he), ?_⟩)
  (u_in rl hF; rw [stepG_region]; simp only [goes_go, List.size_toArray, List.length_cons, List.length_nil, Nat.reduceAdd, Nat.zero_add, List.range, List.range.loop]; refine ⟨by (refine de1_none ?_; intro e he; simp at he), ?_⟩)
  u_in rl hF
  refine goes_oper_k rfl rfl (by k_ne) (fun K hK => ?_)
  go_simp
  refine hK _ _ ⟨?_, ?_⟩
  · refine de1_none ?_
    intro e he
    have hm := mem_listed he
    simp [go_sem, *] at hm
  clear hK K
  try w_num
  u_in rl hF
  refine goes_oper_k rfl rfl (by k_ne) (fun K hK => ?_)
  go_simp
  refine hK _ _ ⟨?_, ?_⟩
  · refine de1_none ?_
    intro e he
    have hm := mem_listed he
    simp [go_sem, *] at hm
  clear hK K
  try w_num
  u_in rl hF
  refine goes_oper_k rfl rfl (by k_ne) (fun K hK => ?_)
  go_simp
  refine hK _ _ ⟨?_, ?_⟩
  · refine de1_none ?_
    intro e he
    have hm := mem_listed he
    simp [go_sem, *] at hm
  clear hK K
  try w_num
  u_in rl hF
  refine goes_oper_k rfl rfl (by k_ne) (fun K hK => ?_)
  go_simp
  refine hK _ _ ⟨?_, ?_⟩
  · refine de1_none ?_
    intro e he
    have hm := mem_listed he
    simp [go_sem, *] at hm
  clear hK K
  try w_num
  u_in rl hF
  refine goes_oper_k rfl rfl (by k_ne) (fun K hK => ?_)
  go_simp
  refine hK _ _ ⟨?_, ?_⟩
  · refine de1_none ?_
    intro e he
    have hm := mem_listed he
    simp [go_sem, *] at hm
  clear hK K
  try w_num
  u_in rl hF
  refine goes_call rfl rfl (by k_ne) rfl Try.func28 nmv_iCells rfl ⟨by (refine de1_none ?_; intro e he; simp at he), ?_⟩
  rw [← enter_at _ Try.func28 rfl]
  refine Goes.stop fun w₁ h₁ => Go1.stop fun w₂ h₂ => ?_
  replace hF := rl (rl hF h₁) h₂
  refine ⟨fun i => Array.getD #[.int .i64 a0, .int .i64 a1, .int .i64 a2, .slice A xss.length c, .int .i64 kw, rr (T 5), rr (T 6), rr (T 7), rr (T 8), rr (T 9), rr (T 10), rr (T 11), ptrB b, .bool g, .slice (some ⟨C3, 0, none⟩) xss.length xss.length, rr (T 15), rr (T 16), rr (T 17), rr (T 18), rr (T 19), rr (T 20), rr (T 21), rr (T 22), rr (T 23), rr (T 24), rr (T 25), rr (T 26), rr (T 27), rr (T 28), rr (T 29), rr (T 30), rr (T 31), rr (T 32), rr (T 33), rr (T 34), rr (T 35), rr (T 36), .slice A xss.length c, .slice (some ⟨C3, 0, none⟩) xss.length xss.length, rr (T 39), .int .i64 a0, .int .i64 a1, .int .i64 a2, .slice (some ⟨C3, 0, none⟩) xss.length xss.length, .int .i64 kw, rr (T 45), rr (T 46), rr (T 47), rr (T 48), rr (T 49), rr (T 50), rr (T 51), rr (T 52), rr (T 53), rr (T 54), rr (T 55), rr (T 56), rr (T 57), rr (T 58), rr (T 59), rr (T 60), rr (T 61), rr (T 62), rr (T 63), rr (T 64), rr (T 65), rr (T 66), rr (T 67), rr (T 68), rr (T 69), rr (T 70), rr (T 71), rr (T 72), rr (T 73), rr (T 74), rr (T 75), rr (T 76), rr (T 77), rr (T 78), rr (T 79), rr (T 80), rr (T 81), rr (T 82), rr (T 83), rr (T 84), rr (T 85), rr (T 86), rr (T 87), rr (T 88), rr (T 89), rr (T 90), rr (T 91), rr (T 92), rr (T 93), rr (T 94), rr (T 95), rr (T 96), rr (T 97), rr (T 98), rr (T 99), rr (T 100), rr (T 101), rr (T 102), rr (T 103), rr (T 104), rr (T 105), rr (T 106), rr (T 107), rr (T 108), rr (T 109), rr (T 110), rr (T 111), rr (T 112), rr (T 113), rr (T 114), rr (T 115)] i undef, b, C3, G3, _, by kernel_rfl, hF⟩
set_option maxRecDepth 100000 in
set_option maxHeartbeats 8000000 in
theorem v_c {T : Nat → Value} {b C3 : Nat} {Aw Ag : Option Addr} {cw cg : Nat} {ys : List Int} {d0 d1 d2 : Int} {g : Bool} {Gg G3 : Nat → Prop} (hF : LH W₀ [.box b #[.int .i64 d0, .int .i64 d1, .int .i64 d2, .slice Aw ys.length cw] 37, .arg Aw ys, .ss A xss] F [(Gg, .own Ag ys), (G3, .sso (some ⟨C3, 0, none⟩) xss)] S w) (hn : xss.length ≤ 1048576) (hl : ∀ e ∈ xss, e.length ≤ 1048576) (hsum : sumLL xss ≤ 100000000) (hy : ys.length ≤ 1048576) :
    GL Try.prog (fun t gg w' => ∃ T b' F', gg = G ((base 6).at ⟨arrV6 T (.int .i64 a0) (.int .i64 a1) (.int .i64 a2) (.slice A xss.length c) (.int .i64 kw) (ptrB b) (.bool g) (ptrB b') (.bool g) (.int .i64 (1 + (sumLL xss : Int))), []⟩ [.code vc14]) [] ∧
      LH W₀ [.box b' #[.int .i64 d0, .int .i64 d1, .int .i64 d2, .slice Ag ys.length cg] 37, .box b #[.int .i64 d0, .int .i64 d1, .int .i64 d2, .slice Aw ys.length cw] 37, .arg Aw ys, .ss A xss] F' [(Gg, .own Ag ys)] t w') S
      (G ((base 6).at (Act.put ⟨arrV3 T (.int .i64 a0) (.int .i64 a1) (.int .i64 a2) (.slice A xss.length c) (.int .i64 kw) (ptrB b) (.bool g) (.slice (some ⟨C3, 0, none⟩) xss.length xss.length), []⟩ ((vy7[5]?).bind (·.dst)) (.tuple #[cellV d0 d1 d2 Ag ys.length cg, .bool g])) [.inRegion vy7 [6, 7, 8, 9, 10, 11], .code vc8]) []) w := by
  have rl : ∀ {l : List Fc} {F : Nat → Prop} {own : List ((Nat → Prop) × Fc)} {S : Nat → Prop} {a b : World}, LH W₀ l F own S a → RS No S a b → LH W₀ l F own S b := fun h r => h.rely r
  rw [vput4]
  have fA := hF.base (f := .ss A xss) (by simp)
  have fW := hF.base (f := .arg Aw ys) (by simp)
  have fB := hF.base (f := .box b #[.int .i64 d0, .int .i64 d1, .int .i64 d2, .slice Aw ys.length cw] 37) (by simp)
  have fG := hF.mine (p := (Gg, .own Ag ys)) (by simp)
  have f3 := hF.mine (p := (G3, .sso (some ⟨C3, 0, none⟩) xss)) (by simp)
  have okG : okV (fnsQ ecFs w S No) w.heap.size (.tuple #[cellV d0 d1 d2 Ag ys.length cg, .bool g]) = true := by
    have := okV_argW (fs := ecFs) (W := No) hF.low fG.2.p ys.length cg
    simp [okV_tuple, okV_agg, this]
  have okb : okV (fnsQ ecFs w S No) w.heap.size (ptrB b) = true := okV_boxW hF.low fB.1 (by rw [fB.2]; rfl)
  have hcut := gl_cutM (P := Try.prog) (fs := ecFs) (v := w) (F := S) (W := No) (cs := []) (f := 6) (n := 1) (c := vc8) (ops := vy7) (rest := [6, 7, 8, 9, 10, 11]) (fun b h => h.elim) hF.low zero_ok hF.glob ecFs_ok vc8_spine vy7_ok (Pre := fun a' w' => a'.defers = [] ∧ ∃ b', a'.tmps = arrV5 (fun i => a'.tmps.getD i undef) (.int .i64 a0) (.int .i64 a1) (.int .i64 a2) (.slice A xss.length c) (.int .i64 kw) (ptrB b) (.bool g) (.slice (some ⟨C3, 0, none⟩) xss.length xss.length) (ptrB b') (.bool g) ∧ w.heap.size ≤ b' ∧ w'.heap[b']? = some (.cells #[.int .i64 d0, .int .i64 d1, .int .i64 d2, .slice Ag ys.length cg] 37 (0, 0))) (a := ⟨arrV4 T (.int .i64 a0) (.int .i64 a1) (.int .i64 a2) (.slice A xss.length c) (.int .i64 kw) (ptrB b) (.bool g) (.slice (some ⟨C3, 0, none⟩) xss.length xss.length) (.tuple #[cellV d0 d1 d2 Ag ys.length cg, .bool g]), []⟩) rfl fun τ => by
    rw [abs_arrV4, absV_same (.int .i64 a0) (by simp), absV_same (.int .i64 a1) (by simp), absV_same (.int .i64 a2) (by simp), absV_same (.int .i64 kw) (by simp), absV_same (.slice A xss.length c) (okV_argW hF.low fA.1 _ _), absV_same _ okb, absV_same (.bool g) (by simp), absV_same (.slice (some ⟨C3, 0, none⟩) xss.length xss.length) (okV_argW hF.low f3.1.1 _ _), absV_same _ okG]
    have h := v_mid7 (fun i => absV (fnsQ ecFs w S No) w.heap.size (T i)) (.int .i64 a0) (.int .i64 a1) (.int .i64 a2) (.slice A xss.length c) (.int .i64 kw) (.slice (some ⟨C3, 0, none⟩) xss.length xss.length) d0 d1 d2 Aw cw Ag cg ys b g { loneW (fnsQ ecFs w S No) w with tape := τ, drawn := 0 } ((lone_bx hF.low fB.1 id fB.2 fW.2).stay rfl) (lone_rdl hF.lf fW.1 fW.2) (lone_rdl hF.lf fG.1.rd fG.2.p) hy
    have e : ({ loneW (fnsQ ecFs w S No) w with tape := τ, drawn := 0 } : World).heap.size = w.heap.size := loneW_size
    rw [e] at h
    exact h
  refine Go1.bind (fun _ a => RS.refl a) hcut ?_
  rintro t gg w' ⟨s, rfl, ρ, a', wl, rfl, ⟨hd, b', ht, hb1, hb2⟩, hok, hL⟩
  have ea := arg_ren hF.low hL fA.1
  have e3 := arg_ren hF.low hL f3.1.1
  have eb := hL.id b (hF.low _ fB.1)
  replace hF := hF.newBox hL fG.2.p hb1 hb2
  generalize (fun b => (S b ∧ ¬ No b) ∨ s b) = S' at hF ⊢
  rw [ht]
  generalize (fun i => a'.tmps.getD i undef) = T
  simp only [arrV5, List.map_toArray, List.map_cons, List.map_nil, ren_slice, ren_int, ren_bool, ren_pointer, ea, e3]
  simp only [Option.map_some, renS_lit, renA, eb]
  generalize ρ.f b' = b' at hF ⊢
  generalize ren ρ = rr
  clear hcut hok hL ht hd ea e3 eb hb1 hb2 okG okb fA fW fB fG f3
  have hnq : ¬ ((1 : Int) + (sumLL xss : Int) < 0) := by omega
  refine gl_go (n := 100) ?_
  simp only [vc8, Try.f6, cut]
  (u_in rl hF; rw [stepG_seq]; simp only [goes_go]; refine ⟨by (refine de1_none ?_; intro e he; simp at he), ?_⟩)
  (u_in rl hF; rw [stepG_seq]; simp only [goes_go]; refine ⟨by (refine de1_none ?_; intro e he; simp at he), ?_⟩)
  (u_in rl hF; rw [stepG_region]; simp only [goes_go, List.size_toArray, List.length_cons, List.length_nil, Nat.reduceAdd, Nat.zero_add, List.range, List.range.loop]; refine ⟨by (refine de1_none ?_; intro e he; simp at he), ?_⟩)
  u_in rl hF
  refine goes_oper_k rfl rfl (by k_ne) (fun K hK => ?_)
  go_simp
  refine hK _ _ ⟨?_, ?_⟩
  · refine de1_none ?_
    intro e he
    have hm := mem_listed he
    simp [go_sem, *] at hm
  clear hK K
  try w_num
  u_in rl hF
  refine goes_oper_k rfl rfl (by k_ne) (fun K hK => ?_)
  go_simp
  refine hK _ _ ⟨?_, ?_⟩
  · refine de1_none ?_
    intro e he
    have hm := mem_listed he
    simp [go_sem, *] at hm
  clear hK K
  try w_num
  u_in rl hF
  refine goes_call rfl rfl (by k_ne) rfl Try.func27 nmv_toSS rfl ⟨by (refine de1_none ?_; intro e he; simp at he), ?_⟩
  rw [← enter_at _ Try.func27 rfl]
  refine Goes.stop fun w₁ h₁ => ?_
  replace hF := rl hF h₁
  clear h₁
  walk_nrm
  refine Go1.bind (fun _ a => RS.refl a) (toSS_gl hF (hF.base (f := .ss A xss) (by simp)) hn hl) ?_
  rintro t g w' ⟨Ct, Gt, rfl, hF2⟩
  replace hF := hF2
  clear hF2
  refine gl_go (n := 100) ?_
  walk_nrm
  u_in rl hF
  refine goes_call rfl rfl (by k_ne) rfl Try.func20 nmv_eqSS rfl ⟨by (refine de1_none ?_; intro e he; simp at he), ?_⟩
  rw [← enter_at _ Try.func20 rfl]
  refine Goes.stop fun w₁ h₁ => ?_
  replace hF := rl hF h₁
  clear h₁
  walk_nrm
  refine Go1.bind (fun _ a => RS.refl a) (eqSS_gl hF.lf (hF.mine (p := (G3, .sso (some ⟨C3, 0, none⟩) xss)) (by simp)).1 (hF.mine (p := (Gt, .sso (some ⟨Ct, 0, none⟩) xss)) (.head _)).1 hn hl) ?_
  rintro t g w' ⟨rfl, hK⟩
  replace hF := (hF.lk hK).drop
  clear hK
  refine gl_go (n := 100) ?_
  walk_nrm
  u_in rl hF
  refine goes_oper_k rfl rfl (by k_ne) (fun K hK => ?_)
  go_simp
  refine hK _ _ ⟨?_, ?_⟩
  · refine de1_none ?_
    intro e he
    have hm := mem_listed he
    simp [go_sem, *] at hm
  clear hK K
  try w_num
  (u_in rl hF; rw [stepG_region_end]; simp only [goes_go]; refine ⟨by (refine de1_none ?_; intro e he; simp at he), ?_⟩)
  (u_in rl hF; rw [stepG_cond (t := false) (by first | rfl | (simp [Act.eval]; omega))]; simp only [goes_go, if_true, if_false, Bool.false_eq_true, ↓reduceIte]; refine ⟨by (refine de1_none ?_; intro e he; simp at he), ?_⟩)
  (u_in rl hF; rw [stepG_skip]; simp only [goes_go]; refine ⟨by (refine de1_none ?_; intro e he; simp at he), ?_⟩)
  (u_in rl hF; rw [stepG_seq]; simp only [goes_go]; refine ⟨by (refine de1_none ?_; intro e he; simp at he), ?_⟩)
  (u_in rl hF; rw [stepG_region]; simp only [goes_go, List.size_toArray, List.length_cons, List.length_nil, Nat.reduceAdd, Nat.zero_add, List.range, List.range.loop]; refine ⟨by (refine de1_none ?_; intro e he; simp at he), ?_⟩)
  u_in rl hF
  refine goes_oper_k rfl rfl (by k_ne) (fun K hK => ?_)
  go_simp
  refine hK _ _ ⟨?_, ?_⟩
  · refine de1_none ?_
    intro e he
    have hm := mem_listed he
    simp [go_sem, *] at hm
  clear hK K
  try w_num
  (u_in rl hF; rw [stepG_region_end]; simp only [goes_go]; refine ⟨by (refine de1_none ?_; intro e he; simp at he), ?_⟩)
  (u_in rl hF; rw [stepG_seq]; simp only [goes_go]; refine ⟨by (refine de1_none ?_; intro e he; simp at he), ?_⟩)
  (u_in rl hF; rw [stepG_region]; simp only [goes_go, List.size_toArray, List.length_cons, List.length_nil, Nat.reduceAdd, Nat.zero_add, List.range, List.range.loop]; refine ⟨by (refine de1_none ?_; intro e he; simp at he), ?_⟩)
  u_in rl hF
  refine goes_oper_k rfl rfl (by k_ne) (fun K hK => ?_)
  go_simp
  refine hK _ _ ⟨?_, ?_⟩
  · refine de1_none ?_
    intro e he
    have hm := mem_listed he
    simp [go_sem, *] at hm
  clear hK K
  try w_num
  u_in rl hF
  refine goes_oper_k rfl rfl (by k_ne) (fun K hK => ?_)
  go_simp
  refine hK _ _ ⟨?_, ?_⟩
  · refine de1_none ?_
    intro e he
    have hm := mem_listed he
    simp [go_sem, *] at hm
  clear hK K
  try w_num
  u_in rl hF
  refine goes_call rfl rfl (by k_ne) rfl Try.func21 nmv_markSS rfl ⟨by (refine de1_none ?_; intro e he; simp at he), ?_⟩
  rw [← enter_at _ Try.func21 rfl]
  refine Goes.stop fun w₁ h₁ => ?_
  replace hF := rl hF h₁
  clear h₁
  walk_nrm
  replace hF := hF.perm (own' := [(G3, .sso (some ⟨C3, 0, none⟩) xss), (Gg, .own Ag ys)]) (by exact List.Perm.swap _ _ _)
  refine Go1.bind (fun _ a => RS.refl a) (markSS_gl hF hn hl (by omega) (by omega)) ?_
  rintro t g w' ⟨rfl, hF2⟩
  replace hF := hF2.drop
  clear hF2
  refine gl_go (n := 100) ?_
  walk_nrm
  u_in rl hF
  refine goes_oper_k rfl rfl (by k_ne) (fun K hK => ?_)
  go_simp
  refine hK _ _ ⟨?_, ?_⟩
  · refine de1_none ?_
    intro e he
    have hm := mem_listed he
    simp [go_sem, *] at hm
  clear hK K
  try w_num
  (u_in rl hF; rw [stepG_region_end]; simp only [goes_go]; refine ⟨by (refine de1_none ?_; intro e he; simp at he), ?_⟩)
  refine Goes.stop fun w₁ h₁ => Go1.stop fun w₂ h₂ => ?_
  replace hF := rl (rl hF h₁) h₂
  refine ⟨fun i => Array.getD #[.int .i64 a0, .int .i64 a1, .int .i64 a2, .slice A xss.length c, .int .i64 kw, rr (T 5), rr (T 6), rr (T 7), rr (T 8), rr (T 9), rr (T 10), rr (T 11), ptrB b, .bool g, .slice (some ⟨C3, 0, none⟩) xss.length xss.length, ptrB b', .bool g, .int .i64 (1 + (sumLL xss : Int)), rr (T 18), rr (T 19), rr (T 20), rr (T 21), rr (T 22), rr (T 23), rr (T 24), rr (T 25), rr (T 26), rr (T 27), rr (T 28), rr (T 29), rr (T 30), rr (T 31), rr (T 32), rr (T 33), rr (T 34), rr (T 35), rr (T 36), rr (T 37), rr (T 38), rr (T 39), rr (T 40), rr (T 41), rr (T 42), rr (T 43), rr (T 44), rr (T 45), rr (T 46), rr (T 47), rr (T 48), rr (T 49), rr (T 50), rr (T 51), rr (T 52), rr (T 53), rr (T 54), rr (T 55), rr (T 56), .slice (some ⟨C3, 0, none⟩) xss.length xss.length, .slice A xss.length c, .slice (some ⟨Ct, 0, none⟩) xss.length xss.length, .bool true, .bool false, .slice (some ⟨C3, 0, none⟩) xss.length xss.length, .int .i64 1, .int .i64 (1 + (sumLL xss : Int)), rr (T 65), rr (T 66), rr (T 67), rr (T 68), rr (T 69), rr (T 70), rr (T 71), rr (T 72), rr (T 73), rr (T 74), rr (T 75), rr (T 76), rr (T 77), rr (T 78), rr (T 79), rr (T 80), rr (T 81), rr (T 82), rr (T 83), rr (T 84), rr (T 85), rr (T 86), rr (T 87), rr (T 88), rr (T 89), rr (T 90), rr (T 91), rr (T 92), rr (T 93), rr (T 94), rr (T 95), rr (T 96), rr (T 97), rr (T 98), rr (T 99), rr (T 100), rr (T 101), rr (T 102), rr (T 103), rr (T 104), rr (T 105), rr (T 106), rr (T 107), rr (T 108), rr (T 109), rr (T 110), rr (T 111), rr (T 112), rr (T 113), rr (T 114), rr (T 115)] i undef, b', _, by kernel_rfl, hF⟩
set_option maxRecDepth 100000 in
set_option maxHeartbeats 8000000 in
theorem v_d {T : Nat → Value} {b b' : Nat} {Aw Ag : Option Addr} {cw cg : Nat} {ys : List Int} {d0 d1 d2 : Int} {q : Int} {g : Bool} {Gg : Nat → Prop} (hF : LH W₀ [.box b' #[.int .i64 d0, .int .i64 d1, .int .i64 d2, .slice Ag ys.length cg] 37, .box b #[.int .i64 d0, .int .i64 d1, .int .i64 d2, .slice Aw ys.length cw] 37, .arg Aw ys, .ss A xss] F [(Gg, .own Ag ys)] S w) (hn : xss.length ≤ 1048576) (hl : ∀ e ∈ xss, e.length ≤ 1048576) (hy : ys.length ≤ 1048576) (hq : ¬ q < 0) :
    GL Try.prog (fun t gg w' => ∃ T C5 G5 F', gg = G (Frame.enter Try.prog 28 #[.int .i64 a0, .int .i64 a1, .int .i64 a2, .slice (some ⟨C5, 0, none⟩) xss.length xss.length, .int .i64 kw] .normal) [(base 6).at ⟨arrV7 T (.int .i64 a0) (.int .i64 a1) (.int .i64 a2) (.slice A xss.length c) (.int .i64 kw) (ptrB b) (.bool g) (ptrB b') (.int .i64 (1 + (ys.length : Int))), []⟩ [.inRegion vy24 [6, 7, 8, 9, 10, 11, 12], .code vc25]] ∧
      LH W₀ [.box b' #[.int .i64 d0, .int .i64 d1, .int .i64 d2, .slice Ag ys.length cg] 37, .box b #[.int .i64 d0, .int .i64 d1, .int .i64 d2, .slice Aw ys.length cw] 37, .arg Aw ys, .ss A xss] F' [(G5, .sso (some ⟨C5, 0, none⟩) xss), (Gg, .arg Ag (marks markI 1 ys.length))] t w') S
      (G ((base 6).at ⟨arrV6 T (.int .i64 a0) (.int .i64 a1) (.int .i64 a2) (.slice A xss.length c) (.int .i64 kw) (ptrB b) (.bool g) (ptrB b') (.bool g) (.int .i64 q), []⟩ [.code vc14]) []) w := by
  have rl : ∀ {l : List Fc} {F : Nat → Prop} {own : List ((Nat → Prop) × Fc)} {S : Nat → Prop} {a b : World}, LH W₀ l F own S a → RS No S a b → LH W₀ l F own S b := fun h r => h.rely r
  have fA := hF.base (f := .ss A xss) (by simp)
  have fW := hF.base (f := .arg Aw ys) (by simp)
  have fB := hF.base (f := .box b #[.int .i64 d0, .int .i64 d1, .int .i64 d2, .slice Aw ys.length cw] 37) (by simp)
  have fC := hF.base (f := .box b' #[.int .i64 d0, .int .i64 d1, .int .i64 d2, .slice Ag ys.length cg] 37) (by simp)
  have fG := hF.mine (p := (Gg, .own Ag ys)) (by simp)
  obtain ⟨⟨o1, o2⟩, hGS, hFG⟩ := hF.ow (Gg, .own Ag ys) (by simp)
  let W : Nat → Prop := fun y => ys ≠ [] ∧ ∃ a, Ag = some a ∧ a.block = y
  have hWG : ∀ y, W y → Gg y := fun y ⟨_, a, ha, e⟩ => e ▸ (o2 a ha).1
  have hsub : ∀ y, W y → S y := fun y hy => hGS y (hWG y hy)
  have nW : ∀ y, F y → ¬ W y := fun y hy hw => hFG y hy (hWG y hw)
  have FB : F b := (hF.fc (.box b #[.int .i64 d0, .int .i64 d1, .int .i64 d2, .slice Aw ys.length cw] 37) (by simp)).1
  have FC : F b' := (hF.fc (.box b' #[.int .i64 d0, .int .i64 d1, .int .i64 d2, .slice Ag ys.length cg] 37) (by simp)).1
  have FW : ∀ a, Aw = some a → F a.block := fun a ha => ((hF.fc (.arg Aw ys) (by simp)).2 a ha).1
  have okb : okV (fnsQ ecFs w S W) w.heap.size (ptrB b) = true := okV_boxW hF.low fB.1 (by rw [fB.2]; rfl)
  have okc : okV (fnsQ ecFs w S W) w.heap.size (ptrB b') = true := okV_boxW hF.low fC.1 (by rw [fC.2]; rfl)
  have hcut := gl_cutJ (P := Try.prog) (fs := ecFs) (v := w) (F := S) (W := W) (cs := []) (f := 6) (n := 7) (c := vc14) hsub hF.low zero_ok hF.glob ecFs_ok vc14_spine (Pre := fun a' w' => a'.defers = [] ∧ a'.tmps = arrV7 (fun i => a'.tmps.getD i undef) (.int .i64 a0) (.int .i64 a1) (.int .i64 a2) (.slice A xss.length c) (.int .i64 kw) (ptrB b) (.bool g) (ptrB b') (.int .i64 (1 + (ys.length : Int))) ∧ OwnS (Value.int .i64) w' 0 2 Ag (marks markI 1 ys.length)) (a := ⟨arrV6 T (.int .i64 a0) (.int .i64 a1) (.int .i64 a2) (.slice A xss.length c) (.int .i64 kw) (ptrB b) (.bool g) (ptrB b') (.bool g) (.int .i64 q), []⟩) rfl fun τ => by
    rw [abs_arrV6, absV_same (.int .i64 a0) (by simp), absV_same (.int .i64 a1) (by simp), absV_same (.int .i64 a2) (by simp), absV_same (.int .i64 kw) (by simp), absV_same (.slice A xss.length c) (okV_argW hF.low fA.1 _ _), absV_same _ okb, absV_same (.bool g) (by simp), absV_same _ okc, absV_same (.int .i64 q) (by simp)]
    exact v_mid14 (fun i => absV (fnsQ ecFs w S W) w.heap.size (T i)) (.int .i64 a0) (.int .i64 a1) (.int .i64 a2) (.slice A xss.length c) (.int .i64 kw) q d0 d1 d2 Aw cw Ag cg ys b b' g { loneW (fnsQ ecFs w S W) w with tape := τ, drawn := 0 } ((lone_bx hF.low fB.1 (nW _ FB) fB.2 fW.2).stay rfl) ((lone_bx hF.low fC.1 (nW _ FC) fC.2 fG.2.p).stay rfl) (lone_rdlW hF.low fW.1 fW.2 fun a ha => nW _ (FW a ha)) (fun hne => by
      obtain ⟨g', ex, e1, e2, e3⟩ := o1 hne
      exact ⟨g', ex, e1, e2, (lone_own hF.low (hsub _ ⟨hne, _, e1, rfl⟩) ⟨hne, _, e1, rfl⟩ (o2 _ e1).2.1).trans e3⟩) hy hq (fun a ha e => hFG b' FC (e ▸ (o2 a ha).1))
  refine Go1.bind (fun _ a => RS.refl a) hcut ?_
  rintro t gg w' ⟨s, rfl, ρ, a', wl, rfl, ⟨hd, ht, hO⟩, hok, hL⟩
  obtain ⟨p1, p2, p3, p4⟩ := left_state hsub hF.low hL
  have ea := arg_ren hF.low hL fA.1
  have eb := hL.id b (hF.low _ fB.1)
  have ec := hL.id b' (hF.low _ fC.1)
  have hM : (Fc.arg Ag (marks markI 1 ys.length)).holds Gg w' := by
    by_cases hne : ys = []
    · refine ⟨fun i hi => ?_, fun a ha => ⟨(o2 a ha).1, (o2 a ha).2.plz.stay (p4 _ (hGS _ (o2 a ha).1) fun hw => hw.1 hne)⟩⟩
      rw [hne] at hi
      simp [marks] at hi
    · obtain ⟨g1, ex1, e1, _, _⟩ := o1 hne
      have hne2 : marks markI 1 ys.length ≠ [] := fun e => hne (List.eq_nil_of_length_eq_zero (by have := congrArg List.length e; rwa [marks_length] at this))
      obtain ⟨g2, ex2, e2, _, e3⟩ := hO hne2
      rw [e1] at e2
      injection e2 with e2
      injection e2 with e2
      subst e2
      have hg1 := (o2 _ e1)
      have hal : (fnsQ ecFs w S W).al g1 = true := fnsQ_old (hF.low _ (hGS _ hg1.1)) (hGS _ hg1.1) hg1.2.1.plain
      have h4 := (left_blk hL hal e3).1
      rw [hL.id g1 (hF.low _ (hGS _ hg1.1))] at h4
      have hO' : OwnS (Value.int .i64) w' 0 2 Ag (marks markI 1 ys.length) := fun _ => ⟨g1, ex2.map (ren ρ), e1, Nat.zero_le _, by
        unfold Blk
        rw [h4]
        simp only [List.map_toArray, List.map_append, List.map_map]
        congr 4
        exact List.map_congr_left fun z _ => by simp⟩
      refine ⟨hO'.rd, fun a ha => ?_⟩
      rw [e1] at ha
      obtain rfl := Option.some.inj ha
      exact ⟨hg1.1, by simp only; rw [h4]; rfl, rfl⟩
  have hH1 := hF.turn (w' := w') (S' := fun b => (S b ∧ ¬ W b) ∨ s b) (fun y hy hn => ⟨p1 y hy, p4 y hy fun hw => hn (hWG y hw)⟩) p2 p3 ⟨hL.tape, hL.os, hL.output⟩
  replace hF := hH1.addOwn (p := (Gg, .arg Ag (marks markI 1 ys.length))) hM (fun y hy => p1 y (hGS y hy)) hFG (by simp)
  generalize (fun b => (S b ∧ ¬ W b) ∨ s b) = S' at hF ⊢
  rw [ht]
  generalize (fun i => a'.tmps.getD i undef) = T
  simp only [arrV7, List.map_toArray, List.map_cons, List.map_nil, ren_slice, ren_int, ren_bool, ren_pointer, ea]
  simp only [Option.map_some, renS_lit, renA, eb, ec]
  generalize ren ρ = rr
  clear hcut hok hL ht hd ea eb ec okb okc fA fW fB fC fG hH1 hM p1 p2 p3 p4 hO o1 o2 hGS hFG hWG hsub nW FB FC FW
  clear W
  refine gl_go (n := 100) ?_
  simp only [vc14, Try.f6, cut]
  (u_in rl hF; rw [stepG_seq]; simp only [goes_go]; refine ⟨by (refine de1_none ?_; intro e he; simp at he), ?_⟩)
  (u_in rl hF; rw [stepG_region]; simp only [goes_go, List.size_toArray, List.length_cons, List.length_nil, Nat.reduceAdd, Nat.zero_add, List.range, List.range.loop]; refine ⟨by (refine de1_none ?_; intro e he; simp at he), ?_⟩)
  u_in rl hF
  refine goes_oper_k rfl rfl (by k_ne) (fun K hK => ?_)
  go_simp
  refine hK _ _ ⟨?_, ?_⟩
  · refine de1_none ?_
    intro e he
    have hm := mem_listed he
    simp [go_sem, *] at hm
  clear hK K
  try w_num
  u_in rl hF
  refine goes_oper_k rfl rfl (by k_ne) (fun K hK => ?_)
  go_simp
  refine hK _ _ ⟨?_, ?_⟩
  · refine de1_none ?_
    intro e he
    have hm := mem_listed he
    simp [go_sem, *] at hm
  clear hK K
  try w_num
  u_in rl hF
  refine goes_oper_k rfl rfl (by k_ne) (fun K hK => ?_)
  go_simp
  refine hK _ _ ⟨?_, ?_⟩
  · refine de1_none ?_
    intro e he
    have hm := mem_listed he
    simp [go_sem, *] at hm
  clear hK K
  try w_num
  u_in rl hF
  refine goes_oper_k rfl rfl (by k_ne) (fun K hK => ?_)
  go_simp
  refine hK _ _ ⟨?_, ?_⟩
  · refine de1_none ?_
    intro e he
    have hm := mem_listed he
    simp [go_sem, *] at hm
  clear hK K
  try w_num
  u_in rl hF
  refine goes_call rfl rfl (by k_ne) rfl Try.func27 nmv_toSS rfl ⟨by (refine de1_none ?_; intro e he; simp at he), ?_⟩
  rw [← enter_at _ Try.func27 rfl]
  refine Goes.stop fun w₁ h₁ => ?_
  replace hF := rl hF h₁
  clear h₁
  walk_nrm
  refine Go1.bind (fun _ a => RS.refl a) (toSS_gl hF (hF.base (f := .ss A xss) (by simp)) hn hl) ?_
  rintro t g w' ⟨C5, G5, rfl, hF2⟩
  replace hF := hF2
  clear hF2
  refine gl_go (n := 100) ?_
  walk_nrm
  u_in rl hF
  refine goes_oper_k rfl rfl (by k_ne) (fun K hK => ?_)
  go_simp
  refine hK _ _ ⟨?_, ?_⟩
  · refine de1_none ?_
    intro e he
    have hm := mem_listed he
    simp [go_sem, *] at hm
  clear hK K
  try w_num
  u_in rl hF
  refine goes_call rfl rfl (by k_ne) rfl Try.func28 nmv_iCells rfl ⟨by (refine de1_none ?_; intro e he; simp at he), ?_⟩
  rw [← enter_at _ Try.func28 rfl]
  refine Goes.stop fun w₁ h₁ => Go1.stop fun w₂ h₂ => ?_
  replace hF := rl (rl hF h₁) h₂
  refine ⟨fun i => Array.getD #[.int .i64 a0, .int .i64 a1, .int .i64 a2, .slice A xss.length c, .int .i64 kw, rr (T 5), rr (T 6), rr (T 7), rr (T 8), rr (T 9), rr (T 10), rr (T 11), ptrB b, .bool g, rr (T 14), ptrB b', rr (T 16), rr (T 17), .int .i64 (1 + (ys.length : Int)), rr (T 19), rr (T 20), rr (T 21), rr (T 22), rr (T 23), rr (T 24), rr (T 25), rr (T 26), rr (T 27), rr (T 28), rr (T 29), rr (T 30), rr (T 31), rr (T 32), rr (T 33), rr (T 34), rr (T 35), rr (T 36), rr (T 37), rr (T 38), rr (T 39), rr (T 40), rr (T 41), rr (T 42), rr (T 43), rr (T 44), rr (T 45), rr (T 46), rr (T 47), rr (T 48), rr (T 49), rr (T 50), rr (T 51), rr (T 52), rr (T 53), rr (T 54), rr (T 55), rr (T 56), rr (T 57), rr (T 58), rr (T 59), rr (T 60), rr (T 61), rr (T 62), rr (T 63), rr (T 64), rr (T 65), rr (T 66), rr (T 67), rr (T 68), rr (T 69), rr (T 70), rr (T 71), rr (T 72), rr (T 73), rr (T 74), rr (T 75), rr (T 76), rr (T 77), rr (T 78), rr (T 79), rr (T 80), rr (T 81), rr (T 82), rr (T 83), rr (T 84), rr (T 85), rr (T 86), rr (T 87), rr (T 88), rr (T 89), .int .i64 a0, .int .i64 a1, .int .i64 a2, .slice A xss.length c, .slice (some ⟨C5, 0, none⟩) xss.length xss.length, .int .i64 kw, rr (T 96), rr (T 97), rr (T 98), rr (T 99), rr (T 100), rr (T 101), rr (T 102), rr (T 103), rr (T 104), rr (T 105), rr (T 106), rr (T 107), rr (T 108), rr (T 109), rr (T 110), rr (T 111), rr (T 112), rr (T 113), rr (T 114), rr (T 115)] i undef, C5, G5, _, by kernel_rfl, hF⟩
theorem v_e {T : Nat → Value} {b b' C5 : Nat} {Aw Ag Ah : Option Addr} {cw cg ch : Nat} {ys : List Int} {d0 d1 d2 : Int} {g : Bool} {Gg Gh G5 : Nat → Prop} (hF : LH W₀ [.box b' #[.int .i64 d0, .int .i64 d1, .int .i64 d2, .slice Ag ys.length cg] 37, .box b #[.int .i64 d0, .int .i64 d1, .int .i64 d2, .slice Aw ys.length cw] 37, .arg Aw ys, .ss A xss] F [(Gh, .own Ah ys), (G5, .sso (some ⟨C5, 0, none⟩) xss), (Gg, .arg Ag (marks markI 1 ys.length))] S w) (hy : ys.length ≤ 1048576) :
    GL Try.prog (LawEnd W₀) S
      (G ((base 6).at (Act.put ⟨arrV7 T (.int .i64 a0) (.int .i64 a1) (.int .i64 a2) (.slice A xss.length c) (.int .i64 kw) (ptrB b) (.bool g) (ptrB b') (.int .i64 (1 + (ys.length : Int))), []⟩ ((vy24[6]?).bind (·.dst)) (.tuple #[cellV d0 d1 d2 Ah ys.length ch, .bool g])) [.inRegion vy24 [7, 8, 9, 10, 11, 12], .code vc25]) []) w := by
  rw [vput8]
  have fA := hF.base (f := .ss A xss) (by simp)
  have fW := hF.base (f := .arg Aw ys) (by simp)
  have fB := hF.base (f := .box b #[.int .i64 d0, .int .i64 d1, .int .i64 d2, .slice Aw ys.length cw] 37) (by simp)
  have fC := hF.base (f := .box b' #[.int .i64 d0, .int .i64 d1, .int .i64 d2, .slice Ag ys.length cg] 37) (by simp)
  have fG := hF.mine (p := (Gg, .arg Ag (marks markI 1 ys.length))) (by simp)
  have fH := hF.mine (p := (Gh, .own Ah ys)) (by simp)
  have okH : okV (fnsQ ecFs w S No) w.heap.size (.tuple #[cellV d0 d1 d2 Ah ys.length ch, .bool g]) = true := by
    have := okV_argW (fs := ecFs) (W := No) hF.low fH.2.p ys.length ch
    simp [okV_tuple, okV_agg, this]
  have okb : okV (fnsQ ecFs w S No) w.heap.size (ptrB b) = true := okV_boxW hF.low fB.1 (by rw [fB.2]; rfl)
  have okc : okV (fnsQ ecFs w S No) w.heap.size (ptrB b') = true := okV_boxW hF.low fC.1 (by rw [fC.2]; rfl)
  refine law_ret hF Try.func6 rfl (by kernel_rfl) (gl_endM (fs := ecFs) (W := No) (fun b h => h.elim) hF.low zero_ok hF.glob ecFs_ok Try.func6 vl_results vc25_ok vy24_ok rfl fun τ => ?_)
  rw [abs_arrV8, absV_same (.int .i64 a0) (by simp), absV_same (.int .i64 a1) (by simp), absV_same (.int .i64 a2) (by simp), absV_same (.int .i64 kw) (by simp), absV_same (.slice A xss.length c) (okV_argW hF.low fA.1 _ _), absV_same _ okb, absV_same (.bool g) (by simp), absV_same _ okc, absV_same (.int .i64 (1 + (ys.length : Int))) (by simp), absV_same _ okH]
  exact v_tail _ _ _ _ _ _ d0 d1 d2 Aw cw Ag cg Ah ch ys b b' g _ ((lone_bx hF.low fB.1 id fB.2 fW.2).stay rfl) ((lone_bx hF.low fC.1 id fC.2 fG.2).stay rfl) (lone_rdl hF.lf fW.1 fW.2) (lone_rdl hF.lf fG.1 fG.2) (lone_rdl hF.lf fH.1.rd fH.2.p) hy
end
theorem cnt_length (g : Bool) (a0 a1 a2 : Int) (xss : List (List Int)) (kw : Int) (h : g = gateCS a0 a1 a2 xss kw) : (cntOf g a0 a1 a2 xss).length ≤ 1048576 := by
  cases hg : g with
  | false => simp [cntOf]
  | true =>
    rw [hg] at h
    have h := h.symm
    simp only [gateCS, Bool.and_eq_true, decide_eq_true_eq] at h
    obtain ⟨⟨⟨⟨g1, _⟩, _⟩, _⟩, _⟩ := h
    obtain ⟨e0, e1, _⟩ := sidesB_iff g1
    have f0 : 2 ≤ a0 ∧ a0 ≤ 64 := by simpa [Go.Proofs.Ytmmolicodlmlkaa.inB] using e0
    have f1 : 1 ≤ a1 ∧ a1 ≤ 6 := by simpa [Go.Proofs.Ytmmolicodlmlkaa.inB] using e1
    simp only [cntOf, if_true, sumC_length]
    have : a0.toNat * a1.toNat ≤ 64 * 6 := Nat.mul_le_mul (by omega) (by omega)
    omega
theorem sumLL_mem {xss : List (List Int)} {e : List Int} (h : e ∈ xss) : e.length ≤ sumLL xss := by
  induction xss with
  | nil => cases h
  | cons x xss ih =>
    simp only [sumLL]
    rcases List.mem_cons.1 h with rfl | h
    · omega
    · have := ih h
      omega
/-- ████ FnExactCellsShared: ONE GOOD RUN. ████ -/
theorem vrun {W : World} {a0 a1 a2 : Int} {A : Option Addr} {c : Nat} {xss : List (List Int)} {kw : Int} (hG : Try.prog.globals.size ≤ W.heap.size) (h0 : W64 a0) (h1 : W64 a1) (h2 : W64 a2) (hn : xss.length ≤ 9223372036854775807) (hl : ∀ e ∈ xss, e.length ≤ 9223372036854775807) (hx : SSr (fun y => y < W.heap.size) W A xss) :
    ∃ M last o w' t', runNT Try.prog (M + 1) (solo (G (Frame.enter Try.prog 6 #[.int .i64 a0, .int .i64 a1, .int .i64 a2, .slice A xss.length c, .int .i64 kw] .normal) []) W) #[] = (.ended o w', t') ∧
      runN Try.prog M (solo (G (Frame.enter Try.prog 6 #[.int .i64 a0, .int .i64 a1, .int .i64 a2, .slice A xss.length c, .int .i64 kw] .normal) []) W) = .next last ∧ step Try.prog last = .ended o w' ∧ Go.Conc.Good Try.prog (fun v W' => v = .bool true ∧ Below W.heap.size W W') last o w' t' := by
  have hAt0 := at_start (P := Try.prog) (g := G (Frame.enter Try.prog 6 #[.int .i64 a0, .int .i64 a1, .int .i64 a2, .slice A xss.length c, .int .i64 kw] .normal) []) (w := W)
  have hH0 : LH W [.ss A xss] (fun y => y < W.heap.size) [] (FreeB (fun _ => False) W) W :=
    ⟨⟨rfl, rfl, rfl⟩, fun y hy => ⟨hy, rfl⟩, fun y hy => hy.1, hG, fun f hf => by
      simp at hf
      subst hf
      exact hx, fun y hy => ⟨hy, fun l _ h => h⟩, by simp, List.Pairwise.nil⟩
  by_cases hg : (xss.length : Int) + sumLL xss ≤ 1048576
  rotate_left
  · exact ends_at (K := 0) rfl hAt0 (fun y hy => hy) (v_ends hH0 hn hl hg)
  have hn1 : xss.length ≤ 1048576 := by omega
  have hl1 : ∀ e ∈ xss, e.length ≤ 1048576 := fun e he => by have := sumLL_mem he; omega
  have hcl := cnt_length _ a0 a1 a2 xss kw rfl
  obtain ⟨K1, m1, t1, gg, w1, S1, r1, hAt1, ⟨T1, Aw, cw, F1, rfl, hH1⟩, hf1, _⟩ :=
    hAt0.walk (fun S g w d ⟨T, Aw, cw, F', h1, h2⟩ => ⟨T, Aw, cw, F', h1, h2.at⟩) (v_a (a0 := a0) (a1 := a1) (a2 := a2) (c := c) (kw := kw) hH0 hn1 hl1 hg)
  obtain ⟨K2, m2, t2, gg, w2, S2, r2, hAt2, ⟨T2, b, C3, G3, F2, rfl, hH2⟩, hf2, _⟩ :=
    hAt1.walk (fun S g w d ⟨T, b, C3, G3, F', h1, h2⟩ => ⟨T, b, C3, G3, F', h1, h2.at⟩) (v_b (hH1.wide hf1 fun y hy => hy.1) hn1 hl1)
  obtain ⟨K3, m3, t3, w3, Shun3, Ag, cg, Gg, r3, hAt3, hH3⟩ := cells_at hAt2 hH2 hf2 h0 h1 h2 (hH2.mine (p := (G3, .sso (some ⟨C3, 0, none⟩) xss)) (by simp)).1
  obtain ⟨K4, m4, t4, gg, w4, S4, r4, hAt4, ⟨T4, b', F4, rfl, hH4⟩, hf4, _⟩ :=
    hAt3.walk (fun S g w d ⟨T, b', F', h1, h2⟩ => ⟨T, b', F', h1, h2.at⟩) (v_c hH3 hn1 hl1 (by omega) hcl)
  obtain ⟨K5, m5, t5, gg, w5, S5, r5, hAt5, ⟨T5, C5, G5, F5, rfl, hH5⟩, hf5, _⟩ :=
    hAt4.walk (fun S g w d ⟨T, C5, G5, F', h1, h2⟩ => ⟨T, C5, G5, F', h1, h2.at⟩) (v_d (hH4.wide hf4 fun y hy => hy.1) hn1 hl1 hcl (by omega))
  obtain ⟨K6, m6, t6, w6, Shun6, Ah, ch, Gh, r6, hAt6, hH6⟩ := cells_at hAt5 hH5 hf5 h0 h1 h2 (hH5.mine (p := (G5, .sso (some ⟨C5, 0, none⟩) xss)) (by simp)).1
  exact ends_at (run_trans r1 (run_trans r2 (run_trans r3 (run_trans r4 (run_trans r5 r6))))) hAt6 (fun y hy => hy) (v_e hH6 hcl)
end Go.Proofs.Ytmmolicodlmlkaa.Ph
namespace Go.Proofs.Ytmmolicodlmlkaa.Ph
open Go.RowKit Go.ChangeShapes Go.WideShapes Go.Deep
open Go.Proofs.Ytmmolicodlmlkaa.Rel
set_option linter.unusedVariables false

section
variable {H : Type} {enc : TypeId × Value → H} {P : Program} {w : World}
theorem add_lit (b o i : Nat) : (⟨b, o, none⟩ : Addr).add i = ⟨b, o + i, none⟩ := by unfold Addr.add; split <;> simp_all
theorem cell_plz {a : Addr} {u : Value} (h : w.cell? a = some u) : a.block < w.heap.size ∧ Plz w a := by
  refine ⟨World.block_lt_of_cell? w a h, ?_, World.cell?_spot h⟩
  unfold World.cell? at h
  cases hb : w.heap[a.block]? with
  | none => rw [hb] at h; cases h
  | some o =>
    rw [hb] at h
    cases o <;> first | rfl | (simp at h; done)
theorem open_intLL {t e es : TypeId} {fuel : Nat} {v : Value} {x : DataW H × List MemPlace} (ht : P.underlying t = some (.slice e)) (he : P.underlying e = some (.slice es)) (hes : P.underlying es = some (.int .i64)) (ce : P.cellsOf e = 1) (ces : P.cellsOf es = 1)
    (hv : ∀ a n c, v = .slice (some a) n c → a.block < w.heap.size ∧ Plz w a)
    (h : DataW.trod enc P w 0 (fun _ => true) true fuel t [v] = some x) :
    ∃ A c xss n, v = .slice A n c ∧ Hid (List.length xss = n) ∧ n ≤ 9223372036854775807 ∧ SSr (fun y => y < w.heap.size) w A xss ∧ ∀ e ∈ xss, List.length e ≤ 9223372036854775807 := by
  rcases open_slice ht h with ⟨hcs, _⟩ | ⟨a, len, cap, m, n, D, Pl, hcs, hb, hl, hm, hmm, _, hx⟩
  · simp at hcs
    subst hcs
    exact ⟨none, 0, [], 0, rfl, rfl, by omega, ⟨fun a ha => (by cases ha), fun o ho => (by simp at ho)⟩, by simp⟩
  · simp at hcs
    subst hcs
    obtain ⟨p1, p2, p3⟩ := hv _ _ _ rfl
    obtain ⟨b, o, spot⟩ := a
    obtain rfl : spot = none := p3
    have hlm : len ≤ m := by rw [hmm]; split <;> omega
    have each : ∀ i, i < len → ∃ q : Option Addr × Nat × List Int, w.cell? ⟨b, o + i, none⟩ = some (.slice q.1 q.2.2.length q.2.1) ∧ RdL (Value.int .i64) w q.1 q.2.2 ∧ (ArgP (fun y => y < w.heap.size) w q.1 ∨ (q.2.2 = [] ∧ q.2.1 = 0)) ∧ q.2.2.length ≤ 9223372036854775807 := by
      intro i hi
      obtain ⟨cs', h1, h2⟩ := hx i (by omega)
      rw [ce, Nat.mul_one, add_lit] at h1
      obtain ⟨_, hlen, hcell⟩ := World.cells?_some h1
      match cs', hlen with
      | [u], _ =>
        have hu := hcell 0 (by omega)
        rw [add_lit] at hu
        simp at hu
        rcases open_ints he hes ces h2 with ⟨hcs, _⟩ | ⟨a', len', cap', zs, hcs, _, hl', hm', hz, _, hcell', hwz⟩
        · simp at hcs
          subst hcs
          exact ⟨(none, 0, []), hu, RdL.nil, .inl (fun a ha => by cases ha), by simp⟩
        · simp at hcs hz
          subst hcs
          have hzl : (zs.take len').length = len' := by simp; omega
          obtain ⟨b', o', s'⟩ := a'
          refine ⟨(some ⟨b', o', s'⟩, cap', zs.take len'), by simpa only [hzl] using hu, fun j hj => ?_, ?_, by simp only [maxLen] at hm'; show (zs.take len').length ≤ _; omega⟩
          · have hj' : j < zs.length := by
              have : j < (zs.take len').length := hj
              simp at this; omega
            obtain rfl : s' = none := by simpa [Addr.add] using World.cell?_spot (hcell' 0 (by omega))
            have h0 := hcell' j hj'
            rw [add_lit] at h0
            exact ⟨b', o', rfl, by rw [h0]; simp [hj']⟩
          · by_cases h0 : cap' = 0
            · right
              refine ⟨?_, h0⟩
              have : len' = 0 := by omega
              simp [this]
            · left
              intro a ha
              obtain rfl := Option.some.inj ha
              have hc0 := hcell' 0 (by omega)
              obtain rfl : s' = none := by simpa [Addr.add] using World.cell?_spot hc0
              rw [add_lit] at hc0
              have := cell_plz hc0
              exact ⟨this.1, this.2.1, rfl⟩
    haveI : Inhabited (Option Addr × Nat × List Int) := ⟨(none, 0, [])⟩
    obtain ⟨q, hq⟩ := choose_lt each
    refine ⟨some ⟨b, o, none⟩, cap, (List.range len).map fun i => (q i).2.2, len, rfl, by show List.length _ = _; simp, by simp only [maxLen] at hm; omega, ⟨fun a ha => ?_, fun i hi => ?_⟩, fun e he => ?_⟩
    · obtain rfl := Option.some.inj ha
      exact ⟨p1, p2, rfl⟩
    · have hi' : i < len := by simpa using hi
      obtain ⟨r1, r2, r3, _⟩ := hq i hi'
      refine ⟨b, o, (q i).1, (q i).2.1, rfl, ?_, ?_, ?_⟩
      · simpa using r1
      · simpa using r2
      · simpa using r3
    · obtain ⟨i, hi, rfl⟩ := List.mem_map.1 he
      exact (hq i (List.mem_range.1 hi)).2.2.2
end
end Go.Proofs.Ytmmolicodlmlkaa.Ph
