/-
  Parts of the proof: FnRowsSharedOfAll beside leavers: to the program's two calls, and behind them. FnRowsSharedOfAll from its start, at the machine: one good run. No condition.
-/
import Derived.Test.YtmmolicodlmlkaaRK
set_option linter.unusedVariables false
set_option linter.unusedSimpArgs false
namespace Go.Proofs.Ytmmolicodlmlkaa.Ph
open Go.Conc Go.ConcN Go.RowKit Go.Conc.Lib Go.ConcR.Gen Go.ConcN.Gen
open Go.ConcR (KK wgBlock WgAt stA smA rd wr mk DC0 Payload)
open Go.Proofs.Ytmmolicodlmlkaa.Rel
set_option linter.unusedVariables false
set_option linter.unusedSimpArgs false

noncomputable def ry3 : Array Oper := match Try.f7.body with | some (.seq _ (.seq _ (.seq (.region _ ops _) _))) => ops | _ => #[]
noncomputable def rc4 : Code := match Try.f7.body with | some (.seq _ (.seq _ (.seq _ (c)))) => c | _ => .skip
noncomputable def ry4 : Array Oper := match Try.f7.body with | some (.seq _ (.seq _ (.seq _ (.seq (.region _ ops _) _)))) => ops | _ => #[]
theorem litR {T : Array Value} (h : T.size = 82) : ∃ v : Nat → Value, T = #[v 0, v 1, v 2, v 3, v 4, v 5, v 6, v 7, v 8, v 9, v 10, v 11, v 12, v 13, v 14, v 15, v 16, v 17, v 18, v 19, v 20, v 21, v 22, v 23, v 24, v 25, v 26, v 27, v 28, v 29, v 30, v 31, v 32, v 33, v 34, v 35, v 36, v 37, v 38, v 39, v 40, v 41, v 42, v 43, v 44, v 45, v 46, v 47, v 48, v 49, v 50, v 51, v 52, v 53, v 54, v 55, v 56, v 57, v 58, v 59, v 60, v 61, v 62, v 63, v 64, v 65, v 66, v 67, v 68, v 69, v 70, v 71, v 72, v 73, v 74, v 75, v 76, v 77, v 78, v 79, v 80, v 81] := by
  refine ⟨fun i => T.getD i undef, ?_⟩
  have e : #[T.getD 0 undef, T.getD 1 undef, T.getD 2 undef, T.getD 3 undef, T.getD 4 undef, T.getD 5 undef, T.getD 6 undef, T.getD 7 undef, T.getD 8 undef, T.getD 9 undef, T.getD 10 undef, T.getD 11 undef, T.getD 12 undef, T.getD 13 undef, T.getD 14 undef, T.getD 15 undef, T.getD 16 undef, T.getD 17 undef, T.getD 18 undef, T.getD 19 undef, T.getD 20 undef, T.getD 21 undef, T.getD 22 undef, T.getD 23 undef, T.getD 24 undef, T.getD 25 undef, T.getD 26 undef, T.getD 27 undef, T.getD 28 undef, T.getD 29 undef, T.getD 30 undef, T.getD 31 undef, T.getD 32 undef, T.getD 33 undef, T.getD 34 undef, T.getD 35 undef, T.getD 36 undef, T.getD 37 undef, T.getD 38 undef, T.getD 39 undef, T.getD 40 undef, T.getD 41 undef, T.getD 42 undef, T.getD 43 undef, T.getD 44 undef, T.getD 45 undef, T.getD 46 undef, T.getD 47 undef, T.getD 48 undef, T.getD 49 undef, T.getD 50 undef, T.getD 51 undef, T.getD 52 undef, T.getD 53 undef, T.getD 54 undef, T.getD 55 undef, T.getD 56 undef, T.getD 57 undef, T.getD 58 undef, T.getD 59 undef, T.getD 60 undef, T.getD 61 undef, T.getD 62 undef, T.getD 63 undef, T.getD 64 undef, T.getD 65 undef, T.getD 66 undef, T.getD 67 undef, T.getD 68 undef, T.getD 69 undef, T.getD 70 undef, T.getD 71 undef, T.getD 72 undef, T.getD 73 undef, T.getD 74 undef, T.getD 75 undef, T.getD 76 undef, T.getD 77 undef, T.getD 78 undef, T.getD 79 undef, T.getD 80 undef, T.getD 81 undef] = (Array.range 82).map fun i => T.getD i undef := by kernel_rfl
  rw [e]
  apply Array.ext
  · simp [h]
  · intro i h1 h2
    simp [h1]
section
variable {W₀ : World} {F S : Nat → Prop} {own : List ((Nat → Prop) × Fc)} {w : World} {A A2 : Option Addr} {c c2 : Nat} {x sl : List Int} {kw kh : Int}
theorem rl_ends (hF : LH W₀ [.arg A x, .arg A2 sl] F [] S w) (h : x.length > 10000 ∨ sl.length > 10000) : GL Try.prog (LawEnd W₀) S (G (Frame.enter Try.prog 7 #[.slice A x.length c, .slice A2 sl.length c2, .int .i64 kw, .int .i64 kh] .normal) []) w := by
  have ha : ∀ z ∈ (actR A x.length c A2 sl.length c2 kw kh).tmps, okV (fnsQ (fun _ => false) w S No) w.heap.size z = true := by
    intro z hz
    simp [arrR, uns] at hz
    rcases hz with rfl | rfl | rfl | rfl | rfl
    · exact okV_arg hF.lf (hF.base (f := .arg A x) (by simp)).2
    · exact okV_arg hF.lf (hF.base (f := .arg A2 sl) (by simp)).2
    · simp
    · simp
    · exact okV_undef _ _
  rw [rl_enter]
  exact law_ret hF Try.func7 rfl (by kernel_rfl) (gl_ret (fs := fun _ => false) (W := No) (fun b h => h.elim) hF.low zero_ok hF.glob (fun f h => by cases h) Try.func7 rl_results rl_spine rfl ha fun τ => rl_gate _ _ _ _ _ _ _ _ _ h)
set_option maxRecDepth 100000 in
set_option maxHeartbeats 8000000 in
theorem rl_a (hF : LH W₀ [.arg A x, .arg A2 sl] F [] S w) (h1 : x.length ≤ 10000) (h2 : sl.length ≤ 10000) :
    GL Try.prog (fun t g w' => ∃ T : Array Value, g = G (Frame.enter Try.prog 24 #[.slice A x.length c, .slice A2 sl.length c2, .int .i64 kw] .normal) [(base 7).at ⟨T, []⟩ [.inRegion ry3 [3, 4, 5, 6, 7, 8], .code rc4]] ∧ T.size = 82 ∧ T[0]? = some (.slice A x.length c) ∧ T[1]? = some (.slice A2 sl.length c2) ∧ T[2]? = some (.int .i64 kw) ∧ T[3]? = some (.int .i64 kh) ∧ LH W₀ [.arg A x, .arg A2 sl] F [] t w') S (G (Frame.enter Try.prog 7 #[.slice A x.length c, .slice A2 sl.length c2, .int .i64 kw, .int .i64 kh] .normal) []) w := by
  have rl : ∀ {l : List Fc} {F : Nat → Prop} {own : List ((Nat → Prop) × Fc)} {S : Nat → Prop} {a b : World}, LH W₀ l F own S a → RS No S a b → LH W₀ l F own S b := fun h r => h.rely r
  have ha : ∀ z ∈ (actR A x.length c A2 sl.length c2 kw kh).tmps, okV (fnsQ (fun _ => false) w S No) w.heap.size z = true := by
    intro z hz
    simp [arrR, uns] at hz
    rcases hz with rfl | rfl | rfl | rfl | rfl
    · exact okV_arg hF.lf (hF.base (f := .arg A x) (by simp)).2
    · exact okV_arg hF.lf (hF.base (f := .arg A2 sl) (by simp)).2
    · simp
    · simp
    · exact okV_undef _ _
  rw [rl_enter]
  have hcut := gl_cut (P := Try.prog) (fs := fun _ => false) (v := w) (F := S) (W := No) (cs := []) (f := 7) (n := 2) (fun b h => h.elim) hF.low zero_ok hF.glob (fun f h => by cases h) rl_spine rfl ha fun τ => rl_reach _ _ _ _ _ _ _ _ _ h1 h2
  refine Go1.bind (fun _ a => RS.refl a) hcut ?_
  rintro t g w' ⟨s, rfl, ρ, a', wl, rfl, ⟨hd, ht⟩, hok, hL⟩
  have okA : ∀ {B : Option Addr}, ArgP S w B → B.map (renA ρ) = B := by
    intro B hB
    cases B with
    | none => rfl
    | some a =>
      have := hL.id a.block (hF.low _ (hB a rfl).1)
      simp only [Option.map_some, renA, this]
  have ea := okA (hF.base (f := .arg A x) (by simp)).2
  have ea2 := okA (hF.base (f := .arg A2 sl) (by simp)).2
  replace hF := hF.lk (lk_left hF.low hL)
  generalize (fun b => (S b ∧ ¬ No b) ∨ s b) = S' at hF ⊢
  rw [ht]
  generalize (fun i => a'.tmps.getD i undef) = T
  simp only [arrR, List.map_toArray, List.map_cons, List.map_nil, ren_slice, ren_int, ea, ea2]
  generalize ren ρ = rr
  clear hcut ha hok hL okA ht hd ea ea2
  refine gl_go (n := 100) ?_
  simp only [rbody, Try.f7, cut]
  walk_nrm
  (u_in rl hF; rw [stepG_seq]; simp only [goes_go]; refine ⟨by (refine de1_none ?_; intro e he; simp at he), ?_⟩)
  (u_in rl hF; rw [stepG_region]; simp only [goes_go, List.size_toArray, List.length_cons, List.length_nil, Nat.reduceAdd, Nat.zero_add, List.range, List.range.loop]; refine ⟨by (refine de1_none ?_; intro e he; simp at he), ?_⟩)
  u_in rl hF
  refine goes_oper_k rfl rfl (by k_ne) (fun K hK => ?_)
  go_simp
  refine hK _ _ ⟨?_, ?_⟩
  · refine de1_none ?_
    intro e he
    have hm := mem_listed he
    simp [go_sem, *] at hm
  clear hK K
  try w_num
  u_in rl hF
  refine goes_oper_k rfl rfl (by k_ne) (fun K hK => ?_)
  go_simp
  refine hK _ _ ⟨?_, ?_⟩
  · refine de1_none ?_
    intro e he
    have hm := mem_listed he
    simp [go_sem, *] at hm
  clear hK K
  try w_num
  u_in rl hF
  refine goes_oper_k rfl rfl (by k_ne) (fun K hK => ?_)
  go_simp
  refine hK _ _ ⟨?_, ?_⟩
  · refine de1_none ?_
    intro e he
    have hm := mem_listed he
    simp [go_sem, *] at hm
  clear hK K
  try w_num
  u_in rl hF
  refine goes_call rfl rfl (by k_ne) rfl Try.func24 nm_iRows rfl ⟨by (refine de1_none ?_; intro e he; simp at he), ?_⟩
  rw [← enter_at _ Try.func24 rfl]
  refine Goes.stop fun w₁ h₁ => Go1.stop fun w₂ h₂ => ?_
  replace hF := rl (rl hF h₁) h₂
  walk_nrm
  exact ⟨_, rfl, rfl, rfl, rfl, rfl, rfl, hF⟩
set_option maxRecDepth 100000 in
set_option maxHeartbeats 8000000 in
theorem rl_b {l : List Fc} {T : Array Value} {Ag : Option Addr} {cg : Nat} {xg : List (List Int)} {g1 : Bool} (hF : LH W₀ l F own S w) (hT : T.size = 82) (h0 : T[0]? = some (.slice A x.length c)) (h1 : T[1]? = some (.slice A2 sl.length c2)) (h2 : T[2]? = some (.int .i64 kw)) (h3 : T[3]? = some (.int .i64 kh)) :
    GL Try.prog (fun t g w' => ∃ T : Array Value, g = G (Frame.enter Try.prog 24 #[.slice A x.length c, .slice A2 sl.length c2, .int .i64 kh] .normal) [(base 7).at ⟨T, []⟩ [.inRegion ry4 [3, 4, 5, 6, 7, 8], .code rtail]] ∧ T.size = 82 ∧ T[0]? = some (.slice A x.length c) ∧ T[1]? = some (.slice A2 sl.length c2) ∧ T[2]? = some (.int .i64 kw) ∧ T[3]? = some (.int .i64 kh) ∧ T[9]? = some (.slice Ag xg.length cg) ∧ T[10]? = some (.bool g1) ∧ LH W₀ l F own t w') S (G ((base 7).at (Act.put ⟨T, []⟩ ((ry3[3]?).bind (·.dst)) (.tuple #[.slice Ag xg.length cg, .bool g1])) [.inRegion ry3 [4, 5, 6, 7, 8], .code rc4]) []) w := by
  have rl : ∀ {l : List Fc} {F : Nat → Prop} {own : List ((Nat → Prop) × Fc)} {S : Nat → Prop} {a b : World}, LH W₀ l F own S a → RS No S a b → LH W₀ l F own S b := fun h r => h.rely r
  obtain ⟨v, rfl⟩ := litR hT
  replace h0 : v 0 = .slice A x.length c := Option.some.inj h0
  replace h1 : v 1 = .slice A2 sl.length c2 := Option.some.inj h1
  replace h2 : v 2 = .int .i64 kw := Option.some.inj h2
  replace h3 : v 3 = .int .i64 kh := Option.some.inj h3
  rw [h0, h1, h2, h3]
  clear hT h0 h1 h2 h3
  refine gl_go (n := 100) ?_
  simp only [ry3, rc4, Try.f7]
  walk_nrm
  u_in rl hF
  refine goes_oper_k rfl rfl (by k_ne) (fun K hK => ?_)
  go_simp
  refine hK _ _ ⟨?_, ?_⟩
  · refine de1_none ?_
    intro e he
    have hm := mem_listed he
    simp [go_sem, *] at hm
  clear hK K
  try w_num
  u_in rl hF
  refine goes_oper_k rfl rfl (by k_ne) (fun K hK => ?_)
  go_simp
  refine hK _ _ ⟨?_, ?_⟩
  · refine de1_none ?_
    intro e he
    have hm := mem_listed he
    simp [go_sem, *] at hm
  clear hK K
  try w_num
  u_in rl hF
  refine goes_oper_k rfl rfl (by k_ne) (fun K hK => ?_)
  go_simp
  refine hK _ _ ⟨?_, ?_⟩
  · refine de1_none ?_
    intro e he
    have hm := mem_listed he
    simp [go_sem, *] at hm
  clear hK K
  try w_num
  u_in rl hF
  refine goes_oper_k rfl rfl (by k_ne) (fun K hK => ?_)
  go_simp
  refine hK _ _ ⟨?_, ?_⟩
  · refine de1_none ?_
    intro e he
    have hm := mem_listed he
    simp [go_sem, *] at hm
  clear hK K
  try w_num
  u_in rl hF
  refine goes_oper_k rfl rfl (by k_ne) (fun K hK => ?_)
  go_simp
  refine hK _ _ ⟨?_, ?_⟩
  · refine de1_none ?_
    intro e he
    have hm := mem_listed he
    simp [go_sem, *] at hm
  clear hK K
  try w_num
  (u_in rl hF; rw [stepG_region_end]; simp only [goes_go]; refine ⟨by (refine de1_none ?_; intro e he; simp at he), ?_⟩)
  (u_in rl hF; rw [stepG_seq]; simp only [goes_go]; refine ⟨by (refine de1_none ?_; intro e he; simp at he), ?_⟩)
  (u_in rl hF; rw [stepG_region]; simp only [goes_go, List.size_toArray, List.length_cons, List.length_nil, Nat.reduceAdd, Nat.zero_add, List.range, List.range.loop]; refine ⟨by (refine de1_none ?_; intro e he; simp at he), ?_⟩)
  u_in rl hF
  refine goes_oper_k rfl rfl (by k_ne) (fun K hK => ?_)
  go_simp
  refine hK _ _ ⟨?_, ?_⟩
  · refine de1_none ?_
    intro e he
    have hm := mem_listed he
    simp [go_sem, *] at hm
  clear hK K
  try w_num
  u_in rl hF
  refine goes_oper_k rfl rfl (by k_ne) (fun K hK => ?_)
  go_simp
  refine hK _ _ ⟨?_, ?_⟩
  · refine de1_none ?_
    intro e he
    have hm := mem_listed he
    simp [go_sem, *] at hm
  clear hK K
  try w_num
  u_in rl hF
  refine goes_oper_k rfl rfl (by k_ne) (fun K hK => ?_)
  go_simp
  refine hK _ _ ⟨?_, ?_⟩
  · refine de1_none ?_
    intro e he
    have hm := mem_listed he
    simp [go_sem, *] at hm
  clear hK K
  try w_num
  u_in rl hF
  refine goes_call rfl rfl (by k_ne) rfl Try.func24 nm_iRows rfl ⟨by (refine de1_none ?_; intro e he; simp at he), ?_⟩
  rw [← enter_at _ Try.func24 rfl]
  refine Goes.stop fun w₁ h₁ => Go1.stop fun w₂ h₂ => ?_
  replace hF := rl (rl hF h₁) h₂
  walk_nrm
  exact ⟨_, rfl, rfl, rfl, rfl, rfl, rfl, rfl, rfl, hF⟩
set_option maxRecDepth 100000 in
set_option maxHeartbeats 8000000 in
theorem rl_c {l : List Fc} {T : Array Value} {Ag : Option Addr} {cg : Nat} {xg : List (List Int)} {g1 : Bool} {Ah : Option Addr} {ch : Nat} {xh : List (List Int)} {g2 : Bool} (hF : LH W₀ l F own S w) (hT : T.size = 82) (h0 : T[0]? = some (.slice A x.length c)) (h1 : T[1]? = some (.slice A2 sl.length c2)) (h2 : T[2]? = some (.int .i64 kw)) (h3 : T[3]? = some (.int .i64 kh)) (h9 : T[9]? = some (.slice Ag xg.length cg)) (h10 : T[10]? = some (.bool g1)) :
    GL Try.prog (fun t g w' => (∃ T, g = G ((base 7).at ⟨arrR T (.slice A x.length c) (.slice A2 sl.length c2) (.int .i64 kw) (.int .i64 kh) (.slice Ag xg.length cg) (.bool g1) (.slice Ah xh.length ch) (.bool g2), []⟩ [.code rtail]) []) ∧ LH W₀ l F own t w') S (G ((base 7).at (Act.put ⟨T, []⟩ ((ry4[3]?).bind (·.dst)) (.tuple #[.slice Ah xh.length ch, .bool g2])) [.inRegion ry4 [4, 5, 6, 7, 8], .code rtail]) []) w := by
  have rl : ∀ {l : List Fc} {F : Nat → Prop} {own : List ((Nat → Prop) × Fc)} {S : Nat → Prop} {a b : World}, LH W₀ l F own S a → RS No S a b → LH W₀ l F own S b := fun h r => h.rely r
  obtain ⟨v, rfl⟩ := litR hT
  replace h0 : v 0 = .slice A x.length c := Option.some.inj h0
  replace h1 : v 1 = .slice A2 sl.length c2 := Option.some.inj h1
  replace h2 : v 2 = .int .i64 kw := Option.some.inj h2
  replace h3 : v 3 = .int .i64 kh := Option.some.inj h3
  replace h9 : v 9 = .slice Ag xg.length cg := Option.some.inj h9
  replace h10 : v 10 = .bool g1 := Option.some.inj h10
  rw [h0, h1, h2, h3, h9, h10]
  clear hT h0 h1 h2 h3 h9 h10
  refine gl_go (n := 100) ?_
  simp only [ry4, Try.f7]
  walk_nrm
  u_in rl hF
  refine goes_oper_k rfl rfl (by k_ne) (fun K hK => ?_)
  go_simp
  refine hK _ _ ⟨?_, ?_⟩
  · refine de1_none ?_
    intro e he
    have hm := mem_listed he
    simp [go_sem, *] at hm
  clear hK K
  try w_num
  u_in rl hF
  refine goes_oper_k rfl rfl (by k_ne) (fun K hK => ?_)
  go_simp
  refine hK _ _ ⟨?_, ?_⟩
  · refine de1_none ?_
    intro e he
    have hm := mem_listed he
    simp [go_sem, *] at hm
  clear hK K
  try w_num
  u_in rl hF
  refine goes_oper_k rfl rfl (by k_ne) (fun K hK => ?_)
  go_simp
  refine hK _ _ ⟨?_, ?_⟩
  · refine de1_none ?_
    intro e he
    have hm := mem_listed he
    simp [go_sem, *] at hm
  clear hK K
  try w_num
  u_in rl hF
  refine goes_oper_k rfl rfl (by k_ne) (fun K hK => ?_)
  go_simp
  refine hK _ _ ⟨?_, ?_⟩
  · refine de1_none ?_
    intro e he
    have hm := mem_listed he
    simp [go_sem, *] at hm
  clear hK K
  try w_num
  u_in rl hF
  refine goes_oper_k rfl rfl (by k_ne) (fun K hK => ?_)
  go_simp
  refine hK _ _ ⟨?_, ?_⟩
  · refine de1_none ?_
    intro e he
    have hm := mem_listed he
    simp [go_sem, *] at hm
  clear hK K
  try w_num
  (u_in rl hF; rw [stepG_region_end]; simp only [goes_go]; refine ⟨by (refine de1_none ?_; intro e he; simp at he), ?_⟩)
  refine Goes.stop fun w₁ h₁ => Go1.stop fun w₂ h₂ => ?_
  replace hF := rl (rl hF h₁) h₂
  refine ⟨⟨fun i => Array.getD #[v 0, v 1, v 2, v 3, v 4, v 5, v 6, v 7, v 8, v 9, v 10, .slice Ah xh.length ch, .bool g2, v 13, v 14, v 15, v 16, v 17, v 18, v 19, v 20, v 21, v 22, v 23, v 24, v 25, v 26, v 27, v 28, v 29, .tuple #[.slice Ah xh.length ch, .bool g2], v 31, v 32, v 33, .tuple #[.slice Ah xh.length ch, .bool g2], .slice Ah xh.length ch, .bool g2, v 37, v 38, v 39, v 40, v 41, v 42, v 43, v 44, v 45, v 46, v 47, v 48, v 49, v 50, v 51, v 52, v 53, v 54, v 55, v 56, v 57, v 58, v 59, v 60, v 61, v 62, v 63, v 64, v 65, v 66, v 67, v 68, v 69, v 70, v 71, v 72, v 73, v 74, v 75, v 76, v 77, v 78, v 79, v 80, v 81] i undef, by kernel_rfl⟩, hF⟩
end
end Go.Proofs.Ytmmolicodlmlkaa.Ph
namespace Go.Proofs.Ytmmolicodlmlkaa.Ph
open Go.Conc Go.ConcN Go.RowKit Go.Conc.Lib Go.ConcR.Gen Go.ConcN.Gen
open Go.ConcR (KK wgBlock WgAt stA smA rd wr mk DC0 Payload)
open Go.Proofs.Ytmmolicodlmlkaa.Rel
set_option linter.unusedVariables false
set_option linter.unusedSimpArgs false

def roFs : FuncId → Bool := fun f => [23, 18, 78, 72, 73, 74, 120, 136, 32, 93].contains f
theorem roOk1 : fnOk Try.prog roFs Try.f23 = true := by kernel_rfl
theorem roOk2 : fnOk Try.prog roFs Try.f18 = true := by kernel_rfl
theorem roOk3 : fnOk Try.prog roFs Try.f78 = true := by kernel_rfl
theorem roOk4 : fnOk Try.prog roFs Try.f72 = true := by kernel_rfl
theorem roOk5 : fnOk Try.prog roFs Try.f73 = true := by kernel_rfl
theorem roOk6 : fnOk Try.prog roFs Try.f74 = true := by kernel_rfl
theorem roOk7 : fnOk Try.prog roFs Try.f120 = true := by kernel_rfl
theorem roOk8 : fnOk Try.prog roFs Try.f136 = true := by kernel_rfl
theorem roOk9 : fnOk Try.prog roFs Try.f32 = true := by kernel_rfl
theorem roOk10 : fnOk Try.prog roFs Try.f93 = true := by kernel_rfl
theorem roFs_ok : ∀ f, roFs f = true → ∃ fn, Try.prog.funcs[f]? = some fn ∧ fnOk Try.prog roFs fn = true := by
  intro f hf
  simp [roFs] at hf
  rcases hf with rfl | rfl | rfl | rfl | rfl | rfl | rfl | rfl | rfl | rfl
  · exact ⟨_, Try.func23, roOk1⟩
  · exact ⟨_, Try.func18, roOk2⟩
  · exact ⟨_, Try.func78, roOk3⟩
  · exact ⟨_, Try.func72, roOk4⟩
  · exact ⟨_, Try.func73, roOk5⟩
  · exact ⟨_, Try.func74, roOk6⟩
  · exact ⟨_, Try.func120, roOk7⟩
  · exact ⟨_, Try.func136, roOk8⟩
  · exact ⟨_, Try.func32, roOk9⟩
  · exact ⟨_, Try.func93, roOk10⟩
theorem rtail_ok : codeOk Try.prog ⟨roFs, fun _ => false, fun _ => false, fun _ => false⟩ rtail = true := by kernel_rfl
set_option maxRecDepth 100000 in
theorem abs_arrR (Fs : Fns) (B : Nat) (T : Nat → Value) (v0 v1 v2 v3 v9 v10 v11 v12 : Value) : absA Fs B ⟨arrR T v0 v1 v2 v3 v9 v10 v11 v12, []⟩ =
    ⟨arrR (fun i => absV Fs B (T i)) (absV Fs B v0) (absV Fs B v1) (absV Fs B v2) (absV Fs B v3) (absV Fs B v9) (absV Fs B v10) (absV Fs B v11) (absV Fs B v12), []⟩ := by
  unfold absA arrR
  simp only [List.map_toArray, List.map_cons, List.map_nil]
section
variable {W₀ : World} {F S Gg Gh : Nat → Prop} {w : World} {A A2 Ag Ah : Option Addr} {c c2 cg ch : Nat} {x sl : List Int} {kw kh : Int} {T : Nat → Value}
theorem rl_tail (hF : LH W₀ [.arg A x, .arg A2 sl] F [(Gh, .sso Ah (resOf (gateRS x sl kh) x sl)), (Gg, .sso Ag (resOf (gateRS x sl kw) x sl))] S w) :
    GL Try.prog (LawEnd W₀) S (G ((base 7).at ⟨arrR T (.slice A x.length c) (.slice A2 sl.length c2) (.int .i64 kw) (.int .i64 kh) (.slice Ag (resOf (gateRS x sl kw) x sl).length cg) (.bool (gateRS x sl kw)) (.slice Ah (resOf (gateRS x sl kh) x sl).length ch) (.bool (gateRS x sl kh)), []⟩ [.code rtail]) []) w := by
  have f1 := hF.base (f := .arg A x) (by simp)
  have f2 := hF.base (f := .arg A2 sl) (by simp)
  have f3 := (hF.mine (p := (Gg, .sso Ag (resOf (gateRS x sl kw) x sl))) (by simp)).1
  have f4 := (hF.mine (p := (Gh, .sso Ah (resOf (gateRS x sl kh) x sl))) (by simp)).1
  refine law_ret hF Try.func7 rfl (by kernel_rfl) (gl_endJ (fs := roFs) (W := No) (fun b h => h.elim) hF.low zero_ok hF.glob roFs_ok Try.func7 rl_results rtail_ok rfl fun τ => ?_)
  rw [abs_arrR, absV_same _ (okV_arg hF.lf f1.2), absV_same _ (okV_arg hF.lf f2.2), absV_same (.int .i64 kw) (by simp), absV_same (.int .i64 kh) (by simp), absV_same _ (okV_arg hF.lf f3.1), absV_same (.bool _) (by simp), absV_same _ (okV_arg hF.lf f4.1), absV_same (.bool _) (by simp)]
  exact rtail_ends _ A c x A2 c2 sl kw kh Ag cg Ah ch _ (lone_rdl hF.lf f1.1 f1.2) (lone_rdl hF.lf f2.1 f2.2) (lone_ss hF.lf f3) (lone_ss hF.lf f4)
end
/-- ████ FnRowsSharedOfAll: ONE GOOD RUN. ████ -/
theorem rall_runs {W : World} {A A2 : Option Addr} {c c2 : Nat} {x sl : List Int} {kw kh : Int} (hG : Try.prog.globals.size ≤ W.heap.size) (hx : RdL (Value.int .i64) W A x) (hs : RdL (Value.int .i64) W A2 sl) (hA : ∀ a, A = some a → a.block < W.heap.size ∧ plainO W.heap[a.block]? = true) (hA2 : ∀ a, A2 = some a → a.block < W.heap.size ∧ plainO W.heap[a.block]? = true) :
    ∃ M last o w' t', runNT Try.prog (M + 1) (solo (G (Frame.enter Try.prog 7 #[.slice A x.length c, .slice A2 sl.length c2, .int .i64 kw, .int .i64 kh] .normal) []) W) #[] = (.ended o w', t') ∧
      runN Try.prog M (solo (G (Frame.enter Try.prog 7 #[.slice A x.length c, .slice A2 sl.length c2, .int .i64 kw, .int .i64 kh] .normal) []) W) = .next last ∧ step Try.prog last = .ended o w' ∧ Go.Conc.Good Try.prog (fun v W' => v = .bool true ∧ Below W.heap.size W W') last o w' t' := by
  have hAt0 := at_start (P := Try.prog) (g := G (Frame.enter Try.prog 7 #[.slice A x.length c, .slice A2 sl.length c2, .int .i64 kw, .int .i64 kh] .normal) []) (w := W)
  have hH0 : LH W [.arg A x, .arg A2 sl] (fun y => y < W.heap.size) [] (FreeB (fun _ => False) W) W :=
    ⟨⟨rfl, rfl, rfl⟩, fun y hy => ⟨hy, rfl⟩, fun y hy => hy.1, hG, fun f hf => by
      simp at hf
      rcases hf with rfl | rfl
      · exact ⟨hx, hA⟩
      · exact ⟨hs, hA2⟩, fun y hy => ⟨hy, fun l _ h => h⟩, by simp, List.Pairwise.nil⟩
  by_cases hg : x.length > 10000 ∨ sl.length > 10000
  · exact ends_at (K := 0) rfl hAt0 (fun y hy => hy) (rl_ends hH0 hg)
  have g1 : x.length ≤ 10000 := by omega
  have g2 : sl.length ≤ 10000 := by omega
  obtain ⟨K1, m1, t1, gg, w1, S1, r1, hAt1, ⟨T1, rfl, k1, k2, k3, k4, k5, hH1⟩, hf1, _⟩ :=
    hAt0.walk (fun S g w d ⟨T, h1, h2, h3, h4, h5, h6, h7⟩ => ⟨T, h1, h2, h3, h4, h5, h6, h7.at⟩) (rl_a (c := c) (c2 := c2) (kw := kw) (kh := kh) hH0 g1 g2)
  have p1 := hH1.base (f := .arg A x) (by simp)
  have p2 := hH1.base (f := .arg A2 sl) (by simp)
  obtain ⟨K2, m2, t2, w2, Shun2, Ag, cg, Gg, r2, hAt2, hH2⟩ := rows_at hAt1 hH1 hf1 p1.1 p2.1 (by omega) (by omega) p1.2 p2.2
  obtain ⟨K3, m3, t3, gg, w3, S3, r3, hAt3, ⟨T3, rfl, j1, j2, j3, j4, j5, j6, j7, hH3⟩, hf3, _⟩ :=
    hAt2.walk (fun S g w d ⟨T, h1, h2, h3, h4, h5, h6, h7, h8, h9⟩ => ⟨T, h1, h2, h3, h4, h5, h6, h7, h8, h9.at⟩) (rl_b (kw := kw) (kh := kh) hH2 k1 k2 k3 k4 k5)
  have q1 := hH3.base (f := .arg A x) (by simp)
  have q2 := hH3.base (f := .arg A2 sl) (by simp)
  obtain ⟨K4, m4, t4, w4, Shun4, Ah, ch, Gh, r4, hAt4, hH4⟩ := rows_at hAt3 hH3 hf3 q1.1 q2.1 (by omega) (by omega) q1.2 q2.2
  obtain ⟨K5, m5, t5, gg, w5, S5, r5, hAt5, ⟨⟨T5, rfl⟩, hH5⟩, hf5, _⟩ :=
    hAt4.walk (fun S g w d ⟨h1, h2⟩ => ⟨h1, h2.at⟩) (rl_c (kw := kw) (kh := kh) hH4 j1 j2 j3 j4 j5 j6 j7)
  exact ends_at (run_trans r1 (run_trans r2 (run_trans r3 (run_trans r4 r5)))) hAt5 hf5 (rl_tail hH5)
end Go.Proofs.Ytmmolicodlmlkaa.Ph
