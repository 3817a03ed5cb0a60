/-
  Parts of the proof: FnExactRowsShared beside leavers: from the first to the second call of the program. FnExactRowsShared beside leavers: from the second call of the program to the end. FnExactRowsShared from its start, at the machine: one good run. No condition.
-/
import Derived.Test.YtmmolicodlmlkaaMJ
set_option linter.unusedVariables false
set_option linter.unusedSimpArgs false
namespace Go.Proofs.Ytmmolicodlmlkaa.Ph
open Go.Conc Go.ConcN Go.RowKit Go.Conc.Lib Go.ConcR.Gen Go.ConcN.Gen
open Go.ConcR (KK wgBlock WgAt stA smA rd wr mk DC0 Payload)
open Go.Proofs.Ytmmolicodlmlkaa.Rel
set_option linter.unusedVariables false
set_option linter.unusedSimpArgs false

noncomputable def lr28 : Array Oper := match Try.f5.body with | some (.seq _ (.seq _ (.seq _ (.seq _ (.seq _ (.seq _ (.seq _ (.seq _ (.seq _ (.seq _ (.seq _ (.seq _ (.seq _ (.seq _ (.seq _ (.seq _ (.seq _ (.seq _ (.seq _ (.seq _ (.seq (.region _ ops _) _))))))))))))))))))))) => ops | _ => #[]
noncomputable def lc29 : Code := match Try.f5.body with | some (.seq _ (.seq _ (.seq _ (.seq _ (.seq _ (.seq _ (.seq _ (.seq _ (.seq _ (.seq _ (.seq _ (.seq _ (.seq _ (.seq _ (.seq _ (.seq _ (.seq _ (.seq _ (.seq _ (.seq _ (.seq _ c))))))))))))))))))))) => c | _ => .skip
theorem litT {T : Array Value} (h : T.size = 119) : ∃ v : Nat → Value, T = (v 0 :: v 1 :: v 2 :: v 3 :: v 4 :: v 5 :: v 6 :: v 7 :: v 8 :: v 9 :: v 10 :: v 11 :: v 12 :: v 13 :: v 14 :: v 15 :: v 16 :: v 17 :: v 18 :: v 19 :: v 20 :: v 21 :: v 22 :: v 23 :: v 24 :: v 25 :: v 26 :: v 27 :: v 28 :: v 29 :: v 30 :: v 31 :: v 32 :: v 33 :: v 34 :: v 35 :: v 36 :: v 37 :: v 38 :: v 39 :: v 40 :: v 41 :: v 42 :: v 43 :: v 44 :: v 45 :: v 46 :: v 47 :: v 48 :: v 49 :: v 50 :: v 51 :: v 52 :: v 53 :: v 54 :: v 55 :: v 56 :: v 57 :: v 58 :: v 59 :: v 60 :: v 61 :: v 62 :: v 63 :: v 64 :: v 65 :: v 66 :: v 67 :: v 68 :: v 69 :: v 70 :: v 71 :: v 72 :: v 73 :: v 74 :: v 75 :: v 76 :: v 77 :: v 78 :: v 79 :: v 80 :: v 81 :: v 82 :: v 83 :: v 84 :: v 85 :: v 86 :: v 87 :: v 88 :: v 89 :: v 90 :: v 91 :: v 92 :: v 93 :: v 94 :: v 95 :: v 96 :: v 97 :: v 98 :: v 99 :: v 100 :: v 101 :: v 102 :: v 103 :: v 104 :: v 105 :: v 106 :: v 107 :: v 108 :: v 109 :: v 110 :: v 111 :: v 112 :: v 113 :: v 114 :: v 115 :: v 116 :: v 117 :: v 118 :: []).toArray := by
  refine ⟨fun i => T.getD i undef, ?_⟩
  have e : (T.getD 0 undef :: T.getD 1 undef :: T.getD 2 undef :: T.getD 3 undef :: T.getD 4 undef :: T.getD 5 undef :: T.getD 6 undef :: T.getD 7 undef :: T.getD 8 undef :: T.getD 9 undef :: T.getD 10 undef :: T.getD 11 undef :: T.getD 12 undef :: T.getD 13 undef :: T.getD 14 undef :: T.getD 15 undef :: T.getD 16 undef :: T.getD 17 undef :: T.getD 18 undef :: T.getD 19 undef :: T.getD 20 undef :: T.getD 21 undef :: T.getD 22 undef :: T.getD 23 undef :: T.getD 24 undef :: T.getD 25 undef :: T.getD 26 undef :: T.getD 27 undef :: T.getD 28 undef :: T.getD 29 undef :: T.getD 30 undef :: T.getD 31 undef :: T.getD 32 undef :: T.getD 33 undef :: T.getD 34 undef :: T.getD 35 undef :: T.getD 36 undef :: T.getD 37 undef :: T.getD 38 undef :: T.getD 39 undef :: T.getD 40 undef :: T.getD 41 undef :: T.getD 42 undef :: T.getD 43 undef :: T.getD 44 undef :: T.getD 45 undef :: T.getD 46 undef :: T.getD 47 undef :: T.getD 48 undef :: T.getD 49 undef :: T.getD 50 undef :: T.getD 51 undef :: T.getD 52 undef :: T.getD 53 undef :: T.getD 54 undef :: T.getD 55 undef :: T.getD 56 undef :: T.getD 57 undef :: T.getD 58 undef :: T.getD 59 undef :: T.getD 60 undef :: T.getD 61 undef :: T.getD 62 undef :: T.getD 63 undef :: T.getD 64 undef :: T.getD 65 undef :: T.getD 66 undef :: T.getD 67 undef :: T.getD 68 undef :: T.getD 69 undef :: T.getD 70 undef :: T.getD 71 undef :: T.getD 72 undef :: T.getD 73 undef :: T.getD 74 undef :: T.getD 75 undef :: T.getD 76 undef :: T.getD 77 undef :: T.getD 78 undef :: T.getD 79 undef :: T.getD 80 undef :: T.getD 81 undef :: T.getD 82 undef :: T.getD 83 undef :: T.getD 84 undef :: T.getD 85 undef :: T.getD 86 undef :: T.getD 87 undef :: T.getD 88 undef :: T.getD 89 undef :: T.getD 90 undef :: T.getD 91 undef :: T.getD 92 undef :: T.getD 93 undef :: T.getD 94 undef :: T.getD 95 undef :: T.getD 96 undef :: T.getD 97 undef :: T.getD 98 undef :: T.getD 99 undef :: T.getD 100 undef :: T.getD 101 undef :: T.getD 102 undef :: T.getD 103 undef :: T.getD 104 undef :: T.getD 105 undef :: T.getD 106 undef :: T.getD 107 undef :: T.getD 108 undef :: T.getD 109 undef :: T.getD 110 undef :: T.getD 111 undef :: T.getD 112 undef :: T.getD 113 undef :: T.getD 114 undef :: T.getD 115 undef :: T.getD 116 undef :: T.getD 117 undef :: T.getD 118 undef :: []).toArray = (Array.range 119).map fun i => T.getD i undef := by kernel_rfl
  rw [e]
  apply Array.ext
  · simp [h]
  · intro i h1 h2
    simp [h1]
theorem ev_neq_bool (a b : Bool) (w : World) : (binOp .neq 4 (.bool a) (.bool b)).events Try.prog w #[] = #[] := by cases a <;> cases b <;> kernel_rfl
theorem ev_neq_int (a b : Int) (w : World) : (binOp .neq 3 (.int .i64 a) (.int .i64 b)).events Try.prog w #[] = #[] := by kernel_rfl
theorem LH.perm {W₀ : World} {l : List Fc} {F S : Nat → Prop} {own own' : List ((Nat → Prop) × Fc)} {w : World} (h : LH W₀ l F own S w) (hp : own.Perm own') : LH W₀ l F own' S w :=
  ⟨h.tw, h.old, h.low, h.glob, h.fc, h.sub, fun p hp' => h.ow p (hp.mem_iff.2 hp'), (hp.pairwise_iff fun {a b} hab y hb ha => hab y ha hb).1 h.dis⟩
section
variable {W₀ : World} {S : Nat → Prop} {w : World} {A A2 Aw Ag : Option Addr} {c c2 cw cg x0 x1 : Nat} {x sl : List Int} {xss : List (List Int)} {kw : Int} {g1 : Bool} {T : Array Value} {F Gg : Nat → Prop}
set_option maxRecDepth 100000 in
set_option maxHeartbeats 8000000 in
theorem law_b (hF : LH W₀ [.ss Aw xss, .arg A x, .arg A2 sl] F [(Gg, .sso Ag xss), ((fun y => y = x1), .own (some ⟨x1, 0, none⟩) sl), ((fun y => y = x0), .own (some ⟨x0, 0, none⟩) x)] S w) (hxn : x.length ≤ 1048576) (hsn : sl.length ≤ 1048576) (hxl : xss.length ≤ 1048576) (hxe : ∀ e ∈ xss, e.length ≤ 1048576) (hsum : sumLL xss ≤ 100000000)
    (hT : T.size = 119) (h0 : T[0]? = some (.slice A x.length c)) (h1 : T[1]? = some (.slice A2 sl.length c2)) (h2 : T[2]? = some (.int .i64 kw)) (h7 : T[7]? = some (.slice Aw xss.length cw)) (h8 : T[8]? = some (.bool g1)) (h9 : T[9]? = some (.slice (some ⟨x0, 0, none⟩) x.length x.length)) (h10 : T[10]? = some (.slice (some ⟨x1, 0, none⟩) sl.length sl.length)) :
    GL Try.prog (fun t g w' => ∃ T : Array Value, ∃ y0 y1, g = G (Frame.enter Try.prog 24 #[.slice (some ⟨y0, 0, none⟩) x.length x.length, .slice (some ⟨y1, 0, none⟩) sl.length sl.length, .int .i64 kw] .normal) [(base 5).at ⟨T, []⟩ [.inRegion lr28 [5, 6, 7, 8, 9, 10], .code lc29]] ∧
      T.size = 119 ∧ T[7]? = some (.slice Aw xss.length cw) ∧ T[8]? = some (.bool g1) ∧ T[11]? = some (.slice Ag xss.length cg) ∧ T[14]? = some (.int .i64 (1 + sumLL xss)) ∧
      LH W₀ [.ss Aw xss, .arg A x, .arg A2 sl] F [((fun y => y = y1), .own (some ⟨y1, 0, none⟩) sl), ((fun y => y = y0), .own (some ⟨y0, 0, none⟩) x), (Gg, .sso Ag (marksLL 1 xss))] t w') S (G ((base 5).at (Act.put ⟨T, []⟩ ((lr8[3]?).bind (·.dst)) (.tuple #[.slice Ag xss.length cg, .bool g1])) [.inRegion lr8 [4, 5, 6, 7, 8], .code lc9]) []) w := by
  have rl : ∀ {l : List Fc} {F : Nat → Prop} {own : List ((Nat → Prop) × Fc)} {S : Nat → Prop} {a b : World}, LH W₀ l F own S a → RS No S a b → LH W₀ l F own S b := fun h r => h.rely r
  obtain ⟨v, rfl⟩ := litT hT
  replace h0 : v 0 = .slice A x.length c := Option.some.inj h0
  replace h1 : v 1 = .slice A2 sl.length c2 := Option.some.inj h1
  replace h2 : v 2 = .int .i64 kw := Option.some.inj h2
  replace h7 : v 7 = .slice Aw xss.length cw := Option.some.inj h7
  replace h8 : v 8 = .bool g1 := Option.some.inj h8
  replace h9 : v 9 = .slice (some ⟨x0, 0, none⟩) x.length x.length := Option.some.inj h9
  replace h10 : v 10 = .slice (some ⟨x1, 0, none⟩) sl.length sl.length := Option.some.inj h10
  rw [h0, h1, h2, h7, h8, h9, h10]
  clear h0 h1 h2 h7 h8 h9 h10 hT
  have hnk : ¬ ((1 : Int) + x.length + sl.length < 0) := by omega
  have hnq : ¬ ((1 : Int) + (sumLL xss : Int) < 0) := by omega
  have hev1 := ev_neq_bool
  have hev2 := ev_neq_int
  refine gl_go (n := 100) ?_
  simp only [lr8, lc9, Try.f5]
  walk_nrm
  u_in rl hF
  refine goes_oper_k rfl rfl (by k_ne) (fun K hK => ?_)
  go_simp
  refine hK _ _ ⟨?_, ?_⟩
  · refine de1_none ?_
    intro e he
    have hm := mem_listed he
    simp [go_sem, *] at hm
  clear hK K
  try w_num
  u_in rl hF
  refine goes_oper_k rfl rfl (by k_ne) (fun K hK => ?_)
  go_simp
  refine hK _ _ ⟨?_, ?_⟩
  · refine de1_none ?_
    intro e he
    have hm := mem_listed he
    simp [go_sem, *] at hm
  clear hK K
  try w_num
  u_in rl hF
  refine goes_oper_k rfl rfl (by k_ne) (fun K hK => ?_)
  go_simp
  refine hK _ _ ⟨?_, ?_⟩
  · refine de1_none ?_
    intro e he
    have hm := mem_listed he
    simp [go_sem, *] at hm
  clear hK K
  try w_num
  u_in rl hF
  refine goes_oper_k rfl rfl (by k_ne) (fun K hK => ?_)
  go_simp
  refine hK _ _ ⟨?_, ?_⟩
  · refine de1_none ?_
    intro e he
    have hm := mem_listed he
    simp [go_sem, *] at hm
  clear hK K
  try w_num
  u_in rl hF
  refine goes_oper_k rfl rfl (by k_ne) (fun K hK => ?_)
  go_simp
  refine hK _ _ ⟨?_, ?_⟩
  · refine de1_none ?_
    intro e he
    have hm := mem_listed he
    simp [go_sem, *] at hm
  clear hK K
  try w_num
  (u_in rl hF; rw [stepG_region_end]; simp only [goes_go]; refine ⟨by (refine de1_none ?_; intro e he; simp at he), ?_⟩)
  -- region 9
  (u_in rl hF; rw [stepG_seq]; simp only [goes_go]; refine ⟨by (refine de1_none ?_; intro e he; simp at he), ?_⟩)
  (u_in rl hF; rw [stepG_seq]; simp only [goes_go]; refine ⟨by (refine de1_none ?_; intro e he; simp at he), ?_⟩)
  (u_in rl hF; rw [stepG_region]; simp only [goes_go, List.size_toArray, List.length_cons, List.length_nil, Nat.reduceAdd, Nat.zero_add, List.range, List.range.loop]; refine ⟨by (refine de1_none ?_; intro e he; simp at he), ?_⟩)
  u_in rl hF
  refine goes_oper_k rfl rfl (by k_ne) (fun K hK => ?_)
  go_simp
  refine hK _ _ ⟨?_, ?_⟩
  · refine de1_none ?_
    intro e he
    have hm := mem_listed he
    simp [go_sem, *] at hm
  clear hK K
  try w_num
  u_in rl hF
  refine goes_oper_k rfl rfl (by k_ne) (fun K hK => ?_)
  go_simp
  refine hK _ _ ⟨?_, ?_⟩
  · refine de1_none ?_
    intro e he
    have hm := mem_listed he
    simp [go_sem, *] at hm
  clear hK K
  try w_num
  u_in rl hF
  refine goes_call rfl rfl (by k_ne) rfl Try.func20 nm_eqSS rfl ⟨by (refine de1_none ?_; intro e he; simp at he), ?_⟩
  rw [← enter_at _ Try.func20 rfl]
  refine Goes.stop fun w₁ h₁ => ?_
  replace hF := rl hF h₁
  clear h₁
  walk_nrm
  refine Go1.bind (fun _ a => RS.refl a) (eqSS_gl hF.lf (hF.mine (p := (Gg, .sso Ag xss)) (.head _)).1 (hF.base (f := .ss Aw xss) (by simp)) hxl hxe) ?_
  rintro t g w' ⟨rfl, hK⟩
  replace hF := hF.lk hK
  clear hK
  refine gl_go (n := 100) ?_
  walk_nrm
  u_in rl hF
  refine goes_oper_k rfl rfl (by k_ne) (fun K hK => ?_)
  go_simp
  refine hK _ _ ⟨?_, ?_⟩
  · refine de1_none ?_
    intro e he
    have hm := mem_listed he
    simp [go_sem, *] at hm
  clear hK K
  try w_num
  u_in rl hF
  refine goes_oper_k rfl rfl (by k_ne) (fun K hK => ?_)
  go_simp
  refine hK _ _ ⟨?_, ?_⟩
  · refine de1_none ?_
    intro e he
    have hm := mem_listed he
    simp [go_sem, *] at hm
  clear hK K
  try w_num
  u_in rl hF
  refine goes_oper_k rfl rfl (by k_ne) (fun K hK => ?_)
  go_simp
  refine hK _ _ ⟨?_, ?_⟩
  · refine de1_none ?_
    intro e he
    have hm := mem_listed he
    simp [go_sem, *] at hm
  clear hK K
  try w_num
  u_in rl hF
  refine goes_oper_k rfl rfl (by k_ne) (fun K hK => ?_)
  go_simp
  refine hK _ _ ⟨?_, ?_⟩
  · refine de1_none ?_
    intro e he
    have hm := mem_listed he
    simp [go_sem, *] at hm
  clear hK K
  try w_num
  u_in rl hF
  refine goes_oper_k rfl rfl (by k_ne) (fun K hK => ?_)
  go_simp
  refine hK _ _ ⟨?_, ?_⟩
  · refine de1_none ?_
    intro e he
    have hm := mem_listed he
    simp [go_sem, *] at hm
  clear hK K
  try w_num
  u_in rl hF
  refine goes_oper_k rfl rfl (by k_ne) (fun K hK => ?_)
  go_simp
  refine hK _ _ ⟨?_, ?_⟩
  · refine de1_none ?_
    intro e he
    have hm := mem_listed he
    simp [go_sem, *] at hm
  clear hK K
  try w_num
  (u_in rl hF; rw [stepG_region_end]; simp only [goes_go]; refine ⟨by (refine de1_none ?_; intro e he; simp at he), ?_⟩)
  (u_in rl hF; rw [stepG_cond (t := false) (by first | rfl | (simp [Act.eval]; omega))]; simp only [goes_go, if_true, if_false, Bool.false_eq_true, ↓reduceIte]; refine ⟨by (refine de1_none ?_; intro e he; simp at he), ?_⟩)
  (u_in rl hF; rw [stepG_skip]; simp only [goes_go]; refine ⟨by (refine de1_none ?_; intro e he; simp at he), ?_⟩)
  -- region 11
  (u_in rl hF; rw [stepG_seq]; simp only [goes_go]; refine ⟨by (refine de1_none ?_; intro e he; simp at he), ?_⟩)
  (u_in rl hF; rw [stepG_seq]; simp only [goes_go]; refine ⟨by (refine de1_none ?_; intro e he; simp at he), ?_⟩)
  (u_in rl hF; rw [stepG_region]; simp only [goes_go, List.size_toArray, List.length_cons, List.length_nil, Nat.reduceAdd, Nat.zero_add, List.range, List.range.loop]; refine ⟨by (refine de1_none ?_; intro e he; simp at he), ?_⟩)
  u_in rl hF
  refine goes_oper_k rfl rfl (by k_ne) (fun K hK => ?_)
  go_simp
  refine hK _ _ ⟨?_, ?_⟩
  · refine de1_none ?_
    intro e he
    have hm := mem_listed he
    simp [go_sem, *] at hm
  clear hK K
  try w_num
  u_in rl hF
  refine goes_oper_k rfl rfl (by k_ne) (fun K hK => ?_)
  go_simp
  refine hK _ _ ⟨?_, ?_⟩
  · refine de1_none ?_
    intro e he
    have hm := mem_listed he
    simp [go_sem, *] at hm
  clear hK K
  try w_num
  u_in rl hF
  refine goes_call rfl rfl (by k_ne) rfl Try.func13 nm_toI rfl ⟨by (refine de1_none ?_; intro e he; simp at he), ?_⟩
  rw [← enter_at _ Try.func13 rfl]
  refine Goes.stop fun w₁ h₁ => ?_
  replace hF := rl hF h₁
  clear h₁
  walk_nrm
  refine Go1.bind (fun _ a => RS.refl a) (toI_gl hF.low hF.glob (hF.base (f := .arg A x) (by simp)).2 (hF.base (f := .arg A x) (by simp)).1 hxn) ?_
  rintro t g w' ⟨tx, rfl, hK⟩
  replace hF := hF.copy hK
  clear hK
  refine gl_go (n := 100) ?_
  walk_nrm
  u_in rl hF
  refine goes_call rfl rfl (by k_ne) rfl Try.func15 nm_eqI rfl ⟨by (refine de1_none ?_; intro e he; simp at he), ?_⟩
  rw [← enter_at _ Try.func15 rfl]
  refine Goes.stop fun w₁ h₁ => ?_
  replace hF := rl hF h₁
  clear h₁
  walk_nrm
  refine Go1.bind (fun _ a => RS.refl a) (eqI_gl hF.lf (hF.mine (p := ((fun y => y = x0), .own (some ⟨x0, 0, none⟩) x)) (.tail _ (.tail _ (.tail _ (.head _))))).1.rd (hF.mine (p := ((fun y => y = x0), .own (some ⟨x0, 0, none⟩) x)) (.tail _ (.tail _ (.tail _ (.head _))))).2 (hF.mine (p := ((fun y => y = tx), .own (some ⟨tx, 0, none⟩) x)) (.head _)).1.rd (hF.mine (p := ((fun y => y = tx), .own (some ⟨tx, 0, none⟩) x)) (.head _)).2 hxn) ?_
  rintro t g w' ⟨rfl, hK⟩
  replace hF := (hF.lk hK).drop
  clear hK
  refine gl_go (n := 100) ?_
  walk_nrm
  u_in rl hF
  refine goes_oper_k rfl rfl (by k_ne) (fun K hK => ?_)
  go_simp
  refine hK _ _ ⟨?_, ?_⟩
  · refine de1_none ?_
    intro e he
    have hm := mem_listed he
    simp [go_sem, *] at hm
  clear hK K
  try w_num
  (u_in rl hF; rw [stepG_region_end]; simp only [goes_go]; refine ⟨by (refine de1_none ?_; intro e he; simp at he), ?_⟩)
  (u_in rl hF; rw [stepG_cond (t := false) (by first | rfl | (simp [Act.eval]; omega))]; simp only [goes_go, if_true, if_false, Bool.false_eq_true, ↓reduceIte]; refine ⟨by (refine de1_none ?_; intro e he; simp at he), ?_⟩)
  (u_in rl hF; rw [stepG_skip]; simp only [goes_go]; refine ⟨by (refine de1_none ?_; intro e he; simp at he), ?_⟩)
  -- region 13
  (u_in rl hF; rw [stepG_seq]; simp only [goes_go]; refine ⟨by (refine de1_none ?_; intro e he; simp at he), ?_⟩)
  (u_in rl hF; rw [stepG_seq]; simp only [goes_go]; refine ⟨by (refine de1_none ?_; intro e he; simp at he), ?_⟩)
  (u_in rl hF; rw [stepG_region]; simp only [goes_go, List.size_toArray, List.length_cons, List.length_nil, Nat.reduceAdd, Nat.zero_add, List.range, List.range.loop]; refine ⟨by (refine de1_none ?_; intro e he; simp at he), ?_⟩)
  u_in rl hF
  refine goes_oper_k rfl rfl (by k_ne) (fun K hK => ?_)
  go_simp
  refine hK _ _ ⟨?_, ?_⟩
  · refine de1_none ?_
    intro e he
    have hm := mem_listed he
    simp [go_sem, *] at hm
  clear hK K
  try w_num
  u_in rl hF
  refine goes_oper_k rfl rfl (by k_ne) (fun K hK => ?_)
  go_simp
  refine hK _ _ ⟨?_, ?_⟩
  · refine de1_none ?_
    intro e he
    have hm := mem_listed he
    simp [go_sem, *] at hm
  clear hK K
  try w_num
  u_in rl hF
  refine goes_call rfl rfl (by k_ne) rfl Try.func13 nm_toI rfl ⟨by (refine de1_none ?_; intro e he; simp at he), ?_⟩
  rw [← enter_at _ Try.func13 rfl]
  refine Goes.stop fun w₁ h₁ => ?_
  replace hF := rl hF h₁
  clear h₁
  walk_nrm
  refine Go1.bind (fun _ a => RS.refl a) (toI_gl hF.low hF.glob (hF.base (f := .arg A2 sl) (by simp)).2 (hF.base (f := .arg A2 sl) (by simp)).1 hsn) ?_
  rintro t g w' ⟨ts, rfl, hK⟩
  replace hF := hF.copy hK
  clear hK
  refine gl_go (n := 100) ?_
  walk_nrm
  u_in rl hF
  refine goes_call rfl rfl (by k_ne) rfl Try.func15 nm_eqI rfl ⟨by (refine de1_none ?_; intro e he; simp at he), ?_⟩
  rw [← enter_at _ Try.func15 rfl]
  refine Goes.stop fun w₁ h₁ => ?_
  replace hF := rl hF h₁
  clear h₁
  walk_nrm
  refine Go1.bind (fun _ a => RS.refl a) (eqI_gl hF.lf (hF.mine (p := ((fun y => y = x1), .own (some ⟨x1, 0, none⟩) sl)) (.tail _ (.tail _ (.head _)))).1.rd (hF.mine (p := ((fun y => y = x1), .own (some ⟨x1, 0, none⟩) sl)) (.tail _ (.tail _ (.head _)))).2 (hF.mine (p := ((fun y => y = ts), .own (some ⟨ts, 0, none⟩) sl)) (.head _)).1.rd (hF.mine (p := ((fun y => y = ts), .own (some ⟨ts, 0, none⟩) sl)) (.head _)).2 hsn) ?_
  rintro t g w' ⟨rfl, hK⟩
  replace hF := (hF.lk hK).drop
  clear hK
  refine gl_go (n := 100) ?_
  walk_nrm
  u_in rl hF
  refine goes_oper_k rfl rfl (by k_ne) (fun K hK => ?_)
  go_simp
  refine hK _ _ ⟨?_, ?_⟩
  · refine de1_none ?_
    intro e he
    have hm := mem_listed he
    simp [go_sem, *] at hm
  clear hK K
  try w_num
  (u_in rl hF; rw [stepG_region_end]; simp only [goes_go]; refine ⟨by (refine de1_none ?_; intro e he; simp at he), ?_⟩)
  (u_in rl hF; rw [stepG_cond (t := false) (by first | rfl | (simp [Act.eval]; omega))]; simp only [goes_go, if_true, if_false, Bool.false_eq_true, ↓reduceIte]; refine ⟨by (refine de1_none ?_; intro e he; simp at he), ?_⟩)
  (u_in rl hF; rw [stepG_skip]; simp only [goes_go]; refine ⟨by (refine de1_none ?_; intro e he; simp at he), ?_⟩)
  -- region 15
  (u_in rl hF; rw [stepG_seq]; simp only [goes_go]; refine ⟨by (refine de1_none ?_; intro e he; simp at he), ?_⟩)
  (u_in rl hF; rw [stepG_region]; simp only [goes_go, List.size_toArray, List.length_cons, List.length_nil, Nat.reduceAdd, Nat.zero_add, List.range, List.range.loop]; refine ⟨by (refine de1_none ?_; intro e he; simp at he), ?_⟩)
  u_in rl hF
  refine goes_oper_k rfl rfl (by k_ne) (fun K hK => ?_)
  go_simp
  refine hK _ _ ⟨?_, ?_⟩
  · refine de1_none ?_
    intro e he
    have hm := mem_listed he
    simp [go_sem, *] at hm
  clear hK K
  try w_num
  (u_in rl hF; rw [stepG_region_end]; simp only [goes_go]; refine ⟨by (refine de1_none ?_; intro e he; simp at he), ?_⟩)
  -- region 16
  (u_in rl hF; rw [stepG_seq]; simp only [goes_go]; refine ⟨by (refine de1_none ?_; intro e he; simp at he), ?_⟩)
  (u_in rl hF; rw [stepG_region]; simp only [goes_go, List.size_toArray, List.length_cons, List.length_nil, Nat.reduceAdd, Nat.zero_add, List.range, List.range.loop]; refine ⟨by (refine de1_none ?_; intro e he; simp at he), ?_⟩)
  u_in rl hF
  refine goes_oper_k rfl rfl (by k_ne) (fun K hK => ?_)
  go_simp
  refine hK _ _ ⟨?_, ?_⟩
  · refine de1_none ?_
    intro e he
    have hm := mem_listed he
    simp [go_sem, *] at hm
  clear hK K
  try w_num
  u_in rl hF
  refine goes_oper_k rfl rfl (by k_ne) (fun K hK => ?_)
  go_simp
  refine hK _ _ ⟨?_, ?_⟩
  · refine de1_none ?_
    intro e he
    have hm := mem_listed he
    simp [go_sem, *] at hm
  clear hK K
  try w_num
  u_in rl hF
  refine goes_call rfl rfl (by k_ne) rfl Try.func16 nm_mark rfl ⟨by (refine de1_none ?_; intro e he; simp at he), ?_⟩
  rw [← enter_at _ Try.func16 rfl]
  refine Goes.stop fun w₁ h₁ => ?_
  replace hF := rl hF h₁
  clear h₁
  walk_nrm
  replace hF := hF.perm (own' := [((fun y => y = x0), .own (some ⟨x0, 0, none⟩) x), (Gg, .sso Ag xss), ((fun y => y = x1), .own (some ⟨x1, 0, none⟩) sl)]) (by exact (List.Perm.cons _ (List.Perm.swap _ _ _)).trans (List.Perm.swap _ _ _))
  refine Go1.bind (fun _ a => RS.refl a) (mark_gl hF hxn (by omega) (by omega)) ?_
  rintro t g w' ⟨rfl, hF2⟩
  replace hF := hF2
  clear hF2
  refine gl_go (n := 100) ?_
  walk_nrm
  u_in rl hF
  refine goes_oper_k rfl rfl (by k_ne) (fun K hK => ?_)
  go_simp
  refine hK _ _ ⟨?_, ?_⟩
  · refine de1_none ?_
    intro e he
    have hm := mem_listed he
    simp [go_sem, *] at hm
  clear hK K
  try w_num
  (u_in rl hF; rw [stepG_region_end]; simp only [goes_go]; refine ⟨by (refine de1_none ?_; intro e he; simp at he), ?_⟩)
  -- region 17
  (u_in rl hF; rw [stepG_seq]; simp only [goes_go]; refine ⟨by (refine de1_none ?_; intro e he; simp at he), ?_⟩)
  (u_in rl hF; rw [stepG_region]; simp only [goes_go, List.size_toArray, List.length_cons, List.length_nil, Nat.reduceAdd, Nat.zero_add, List.range, List.range.loop]; refine ⟨by (refine de1_none ?_; intro e he; simp at he), ?_⟩)
  u_in rl hF
  refine goes_oper_k rfl rfl (by k_ne) (fun K hK => ?_)
  go_simp
  refine hK _ _ ⟨?_, ?_⟩
  · refine de1_none ?_
    intro e he
    have hm := mem_listed he
    simp [go_sem, *] at hm
  clear hK K
  try w_num
  u_in rl hF
  refine goes_oper_k rfl rfl (by k_ne) (fun K hK => ?_)
  go_simp
  refine hK _ _ ⟨?_, ?_⟩
  · refine de1_none ?_
    intro e he
    have hm := mem_listed he
    simp [go_sem, *] at hm
  clear hK K
  try w_num
  u_in rl hF
  refine goes_call rfl rfl (by k_ne) rfl Try.func16 nm_mark rfl ⟨by (refine de1_none ?_; intro e he; simp at he), ?_⟩
  rw [← enter_at _ Try.func16 rfl]
  refine Goes.stop fun w₁ h₁ => ?_
  replace hF := rl hF h₁
  clear h₁
  walk_nrm
  replace hF := hF.perm (own' := [((fun y => y = x1), .own (some ⟨x1, 0, none⟩) sl), (Gg, .sso Ag xss)]) (by exact List.Perm.swap _ _ _)
  refine Go1.bind (fun _ a => RS.refl a) (mark_gl hF hsn (by omega) (by omega)) ?_
  rintro t g w' ⟨rfl, hF2⟩
  replace hF := hF2
  clear hF2
  refine gl_go (n := 100) ?_
  walk_nrm
  u_in rl hF
  refine goes_oper_k rfl rfl (by k_ne) (fun K hK => ?_)
  go_simp
  refine hK _ _ ⟨?_, ?_⟩
  · refine de1_none ?_
    intro e he
    have hm := mem_listed he
    simp [go_sem, *] at hm
  clear hK K
  try w_num
  (u_in rl hF; rw [stepG_region_end]; simp only [goes_go]; refine ⟨by (refine de1_none ?_; intro e he; simp at he), ?_⟩)
  -- region 18
  (u_in rl hF; rw [stepG_seq]; simp only [goes_go]; refine ⟨by (refine de1_none ?_; intro e he; simp at he), ?_⟩)
  (u_in rl hF; rw [stepG_seq]; simp only [goes_go]; refine ⟨by (refine de1_none ?_; intro e he; simp at he), ?_⟩)
  (u_in rl hF; rw [stepG_region]; simp only [goes_go, List.size_toArray, List.length_cons, List.length_nil, Nat.reduceAdd, Nat.zero_add, List.range, List.range.loop]; refine ⟨by (refine de1_none ?_; intro e he; simp at he), ?_⟩)
  u_in rl hF
  refine goes_oper_k rfl rfl (by k_ne) (fun K hK => ?_)
  go_simp
  refine hK _ _ ⟨?_, ?_⟩
  · refine de1_none ?_
    intro e he
    have hm := mem_listed he
    simp [go_sem, *] at hm
  clear hK K
  try w_num
  u_in rl hF
  refine goes_oper_k rfl rfl (by k_ne) (fun K hK => ?_)
  go_simp
  refine hK _ _ ⟨?_, ?_⟩
  · refine de1_none ?_
    intro e he
    have hm := mem_listed he
    simp [go_sem, *] at hm
  clear hK K
  try w_num
  u_in rl hF
  refine goes_oper_k rfl rfl (by k_ne) (fun K hK => ?_)
  go_simp
  refine hK _ _ ⟨?_, ?_⟩
  · refine de1_none ?_
    intro e he
    have hm := mem_listed he
    simp [go_sem, *] at hm
  clear hK K
  try w_num
  u_in rl hF
  refine goes_oper_k rfl rfl (by k_ne) (fun K hK => ?_)
  go_simp
  refine hK _ _ ⟨?_, ?_⟩
  · refine de1_none ?_
    intro e he
    have hm := mem_listed he
    simp [go_sem, *] at hm
  clear hK K
  try w_num
  u_in rl hF
  refine goes_oper_k rfl rfl (by k_ne) (fun K hK => ?_)
  go_simp
  refine hK _ _ ⟨?_, ?_⟩
  · refine de1_none ?_
    intro e he
    have hm := mem_listed he
    simp [go_sem, *] at hm
  clear hK K
  try w_num
  u_in rl hF
  refine goes_call rfl rfl (by k_ne) rfl Try.func20 nm_eqSS rfl ⟨by (refine de1_none ?_; intro e he; simp at he), ?_⟩
  rw [← enter_at _ Try.func20 rfl]
  refine Goes.stop fun w₁ h₁ => ?_
  replace hF := rl hF h₁
  clear h₁
  walk_nrm
  refine Go1.bind (fun _ a => RS.refl a) (eqSS_gl hF.lf (hF.mine (p := (Gg, .sso Ag xss)) (.head _)).1 (hF.base (f := .ss Aw xss) (by simp)) hxl hxe) ?_
  rintro t g w' ⟨rfl, hK⟩
  replace hF := hF.lk hK
  clear hK
  refine gl_go (n := 100) ?_
  walk_nrm
  u_in rl hF
  refine goes_oper_k rfl rfl (by k_ne) (fun K hK => ?_)
  go_simp
  refine hK _ _ ⟨?_, ?_⟩
  · refine de1_none ?_
    intro e he
    have hm := mem_listed he
    simp [go_sem, *] at hm
  clear hK K
  try w_num
  u_in rl hF
  refine goes_oper_k rfl rfl (by k_ne) (fun K hK => ?_)
  go_simp
  refine hK _ _ ⟨?_, ?_⟩
  · refine de1_none ?_
    intro e he
    have hm := mem_listed he
    simp [go_sem, *] at hm
  clear hK K
  try w_num
  u_in rl hF
  refine goes_oper_k rfl rfl (by k_ne) (fun K hK => ?_)
  go_simp
  refine hK _ _ ⟨?_, ?_⟩
  · refine de1_none ?_
    intro e he
    have hm := mem_listed he
    simp [go_sem, *] at hm
  clear hK K
  try w_num
  u_in rl hF
  refine goes_oper_k rfl rfl (by k_ne) (fun K hK => ?_)
  go_simp
  refine hK _ _ ⟨?_, ?_⟩
  · refine de1_none ?_
    intro e he
    have hm := mem_listed he
    simp [go_sem, *] at hm
  clear hK K
  try w_num
  u_in rl hF
  refine goes_oper_k rfl rfl (by k_ne) (fun K hK => ?_)
  go_simp
  refine hK _ _ ⟨?_, ?_⟩
  · refine de1_none ?_
    intro e he
    have hm := mem_listed he
    simp [go_sem, *] at hm
  clear hK K
  try w_num
  u_in rl hF
  refine goes_oper_k rfl rfl (by k_ne) (fun K hK => ?_)
  go_simp
  refine hK _ _ ⟨?_, ?_⟩
  · refine de1_none ?_
    intro e he
    have hm := mem_listed he
    simp [go_sem, *] at hm
  clear hK K
  try w_num
  u_in rl hF
  refine goes_oper_k rfl rfl (by k_ne) (fun K hK => ?_)
  go_simp
  refine hK _ _ ⟨?_, ?_⟩
  · refine de1_none ?_
    intro e he
    have hm := mem_listed he
    simp [go_sem, *] at hm
  clear hK K
  try w_num
  (u_in rl hF; rw [stepG_region_end]; simp only [goes_go]; refine ⟨by (refine de1_none ?_; intro e he; simp at he), ?_⟩)
  (u_in rl hF; rw [stepG_cond (t := false) (by first | rfl | (simp [Act.eval]; omega))]; simp only [goes_go, if_true, if_false, Bool.false_eq_true, ↓reduceIte]; refine ⟨by (refine de1_none ?_; intro e he; simp at he), ?_⟩)
  (u_in rl hF; rw [stepG_skip]; simp only [goes_go]; refine ⟨by (refine de1_none ?_; intro e he; simp at he), ?_⟩)
  -- region 20
  (u_in rl hF; rw [stepG_seq]; simp only [goes_go]; refine ⟨by (refine de1_none ?_; intro e he; simp at he), ?_⟩)
  (u_in rl hF; rw [stepG_region]; simp only [goes_go, List.size_toArray, List.length_cons, List.length_nil, Nat.reduceAdd, Nat.zero_add, List.range, List.range.loop]; refine ⟨by (refine de1_none ?_; intro e he; simp at he), ?_⟩)
  u_in rl hF
  refine goes_oper_k rfl rfl (by k_ne) (fun K hK => ?_)
  go_simp
  refine hK _ _ ⟨?_, ?_⟩
  · refine de1_none ?_
    intro e he
    have hm := mem_listed he
    simp [go_sem, *] at hm
  clear hK K
  try w_num
  (u_in rl hF; rw [stepG_region_end]; simp only [goes_go]; refine ⟨by (refine de1_none ?_; intro e he; simp at he), ?_⟩)
  -- region 21
  (u_in rl hF; rw [stepG_seq]; simp only [goes_go]; refine ⟨by (refine de1_none ?_; intro e he; simp at he), ?_⟩)
  (u_in rl hF; rw [stepG_region]; simp only [goes_go, List.size_toArray, List.length_cons, List.length_nil, Nat.reduceAdd, Nat.zero_add, List.range, List.range.loop]; refine ⟨by (refine de1_none ?_; intro e he; simp at he), ?_⟩)
  u_in rl hF
  refine goes_oper_k rfl rfl (by k_ne) (fun K hK => ?_)
  go_simp
  refine hK _ _ ⟨?_, ?_⟩
  · refine de1_none ?_
    intro e he
    have hm := mem_listed he
    simp [go_sem, *] at hm
  clear hK K
  try w_num
  u_in rl hF
  refine goes_oper_k rfl rfl (by k_ne) (fun K hK => ?_)
  go_simp
  refine hK _ _ ⟨?_, ?_⟩
  · refine de1_none ?_
    intro e he
    have hm := mem_listed he
    simp [go_sem, *] at hm
  clear hK K
  try w_num
  u_in rl hF
  refine goes_call rfl rfl (by k_ne) rfl Try.func21 nm_markSS rfl ⟨by (refine de1_none ?_; intro e he; simp at he), ?_⟩
  rw [← enter_at _ Try.func21 rfl]
  refine Goes.stop fun w₁ h₁ => ?_
  replace hF := rl hF h₁
  clear h₁
  walk_nrm
  refine Go1.bind (fun _ a => RS.refl a) (markSS_gl hF hxl hxe (by omega) (by omega)) ?_
  rintro t g w' ⟨rfl, hF2⟩
  replace hF := hF2
  clear hF2
  refine gl_go (n := 100) ?_
  walk_nrm
  u_in rl hF
  refine goes_oper_k rfl rfl (by k_ne) (fun K hK => ?_)
  go_simp
  refine hK _ _ ⟨?_, ?_⟩
  · refine de1_none ?_
    intro e he
    have hm := mem_listed he
    simp [go_sem, *] at hm
  clear hK K
  try w_num
  (u_in rl hF; rw [stepG_region_end]; simp only [goes_go]; refine ⟨by (refine de1_none ?_; intro e he; simp at he), ?_⟩)
  -- region 22
  (u_in rl hF; rw [stepG_seq]; simp only [goes_go]; refine ⟨by (refine de1_none ?_; intro e he; simp at he), ?_⟩)
  (u_in rl hF; rw [stepG_region]; simp only [goes_go, List.size_toArray, List.length_cons, List.length_nil, Nat.reduceAdd, Nat.zero_add, List.range, List.range.loop]; refine ⟨by (refine de1_none ?_; intro e he; simp at he), ?_⟩)
  u_in rl hF
  refine goes_oper_k rfl rfl (by k_ne) (fun K hK => ?_)
  go_simp
  refine hK _ _ ⟨?_, ?_⟩
  · refine de1_none ?_
    intro e he
    have hm := mem_listed he
    simp [go_sem, *] at hm
  clear hK K
  try w_num
  (u_in rl hF; rw [stepG_region_end]; simp only [goes_go]; refine ⟨by (refine de1_none ?_; intro e he; simp at he), ?_⟩)
  -- region 23
  (u_in rl hF; rw [stepG_seq]; simp only [goes_go]; refine ⟨by (refine de1_none ?_; intro e he; simp at he), ?_⟩)
  (u_in rl hF; rw [stepG_region]; simp only [goes_go, List.size_toArray, List.length_cons, List.length_nil, Nat.reduceAdd, Nat.zero_add, List.range, List.range.loop]; refine ⟨by (refine de1_none ?_; intro e he; simp at he), ?_⟩)
  u_in rl hF
  refine goes_oper_k rfl rfl (by k_ne) (fun K hK => ?_)
  go_simp
  refine hK _ _ ⟨?_, ?_⟩
  · refine de1_none ?_
    intro e he
    have hm := mem_listed he
    simp [go_sem, *] at hm
  clear hK K
  try w_num
  u_in rl hF
  refine goes_oper_k rfl rfl (by k_ne) (fun K hK => ?_)
  go_simp
  refine hK _ _ ⟨?_, ?_⟩
  · refine de1_none ?_
    intro e he
    have hm := mem_listed he
    simp [go_sem, *] at hm
  clear hK K
  try w_num
  u_in rl hF
  refine goes_call rfl rfl (by k_ne) rfl Try.func22 nm_heldSS rfl ⟨by (refine de1_none ?_; intro e he; simp at he), ?_⟩
  rw [← enter_at _ Try.func22 rfl]
  refine Goes.stop fun w₁ h₁ => ?_
  replace hF := rl hF h₁
  clear h₁
  walk_nrm
  refine Go1.bind (fun _ a => RS.refl a) (heldSS_gl hF.lf (hF.mine (p := (Gg, .sso Ag (marksLL 1 xss))) (.head _)).1 hxl hxe (by omega) (by omega)) ?_
  rintro t g w' ⟨rfl, hK⟩
  replace hF := hF.lk hK
  clear hK
  refine gl_go (n := 100) ?_
  walk_nrm
  u_in rl hF
  refine goes_oper_k rfl rfl (by k_ne) (fun K hK => ?_)
  go_simp
  refine hK _ _ ⟨?_, ?_⟩
  · refine de1_none ?_
    intro e he
    have hm := mem_listed he
    simp [go_sem, *] at hm
  clear hK K
  try w_num
  (u_in rl hF; rw [stepG_region_end]; simp only [goes_go]; refine ⟨by (refine de1_none ?_; intro e he; simp at he), ?_⟩)
  -- region 24
  (u_in rl hF; rw [stepG_seq]; simp only [goes_go]; refine ⟨by (refine de1_none ?_; intro e he; simp at he), ?_⟩)
  (u_in rl hF; rw [stepG_seq]; simp only [goes_go]; refine ⟨by (refine de1_none ?_; intro e he; simp at he), ?_⟩)
  (u_in rl hF; rw [stepG_region]; simp only [goes_go, List.size_toArray, List.length_cons, List.length_nil, Nat.reduceAdd, Nat.zero_add, List.range, List.range.loop]; refine ⟨by (refine de1_none ?_; intro e he; simp at he), ?_⟩)
  u_in rl hF
  refine goes_oper_k rfl rfl (by k_ne) (fun K hK => ?_)
  go_simp
  refine hK _ _ ⟨?_, ?_⟩
  · refine de1_none ?_
    intro e he
    have hm := mem_listed he
    simp [go_sem, *] at hm
  clear hK K
  try w_num
  u_in rl hF
  refine goes_oper_k rfl rfl (by k_ne) (fun K hK => ?_)
  go_simp
  refine hK _ _ ⟨?_, ?_⟩
  · refine de1_none ?_
    intro e he
    have hm := mem_listed he
    simp [go_sem, *] at hm
  clear hK K
  try w_num
  (u_in rl hF; rw [stepG_region_end]; simp only [goes_go]; refine ⟨by (refine de1_none ?_; intro e he; simp at he), ?_⟩)
  (u_in rl hF; rw [stepG_cond (t := false) (by first | rfl | (simp [Act.eval]; omega))]; simp only [goes_go, if_true, if_false, Bool.false_eq_true, ↓reduceIte]; refine ⟨by (refine de1_none ?_; intro e he; simp at he), ?_⟩)
  (u_in rl hF; rw [stepG_skip]; simp only [goes_go]; refine ⟨by (refine de1_none ?_; intro e he; simp at he), ?_⟩)
  -- region 26
  (u_in rl hF; rw [stepG_seq]; simp only [goes_go]; refine ⟨by (refine de1_none ?_; intro e he; simp at he), ?_⟩)
  (u_in rl hF; rw [stepG_seq]; simp only [goes_go]; refine ⟨by (refine de1_none ?_; intro e he; simp at he), ?_⟩)
  (u_in rl hF; rw [stepG_region]; simp only [goes_go, List.size_toArray, List.length_cons, List.length_nil, Nat.reduceAdd, Nat.zero_add, List.range, List.range.loop]; refine ⟨by (refine de1_none ?_; intro e he; simp at he), ?_⟩)
  u_in rl hF
  refine goes_oper_k rfl rfl (by k_ne) (fun K hK => ?_)
  go_simp
  refine hK _ _ ⟨?_, ?_⟩
  · refine de1_none ?_
    intro e he
    have hm := mem_listed he
    simp [go_sem, *] at hm
  clear hK K
  try w_num
  u_in rl hF
  refine goes_oper_k rfl rfl (by k_ne) (fun K hK => ?_)
  go_simp
  refine hK _ _ ⟨?_, ?_⟩
  · refine de1_none ?_
    intro e he
    have hm := mem_listed he
    simp [go_sem, *] at hm
  clear hK K
  try w_num
  u_in rl hF
  refine goes_oper_k rfl rfl (by k_ne) (fun K hK => ?_)
  go_simp
  refine hK _ _ ⟨?_, ?_⟩
  · refine de1_none ?_
    intro e he
    have hm := mem_listed he
    simp [go_sem, *] at hm
  clear hK K
  try w_num
  (u_in rl hF; rw [stepG_region_end]; simp only [goes_go]; refine ⟨by (refine de1_none ?_; intro e he; simp at he), ?_⟩)
  (u_in rl hF; rw [stepG_cond (t := false) (by first | rfl | (simp [Act.eval]; omega))]; simp only [goes_go, if_true, if_false, Bool.false_eq_true, ↓reduceIte]; refine ⟨by (refine de1_none ?_; intro e he; simp at he), ?_⟩)
  (u_in rl hF; rw [stepG_skip]; simp only [goes_go]; refine ⟨by (refine de1_none ?_; intro e he; simp at he), ?_⟩)
  -- region 28
  (u_in rl hF; rw [stepG_seq]; simp only [goes_go]; refine ⟨by (refine de1_none ?_; intro e he; simp at he), ?_⟩)
  (u_in rl hF; rw [stepG_region]; simp only [goes_go, List.size_toArray, List.length_cons, List.length_nil, Nat.reduceAdd, Nat.zero_add, List.range, List.range.loop]; refine ⟨by (refine de1_none ?_; intro e he; simp at he), ?_⟩)
  u_in rl hF
  refine goes_oper_k rfl rfl (by k_ne) (fun K hK => ?_)
  go_simp
  refine hK _ _ ⟨?_, ?_⟩
  · refine de1_none ?_
    intro e he
    have hm := mem_listed he
    simp [go_sem, *] at hm
  clear hK K
  try w_num
  u_in rl hF
  refine goes_call rfl rfl (by k_ne) rfl Try.func13 nm_toI rfl ⟨by (refine de1_none ?_; intro e he; simp at he), ?_⟩
  rw [← enter_at _ Try.func13 rfl]
  refine Goes.stop fun w₁ h₁ => ?_
  replace hF := rl hF h₁
  clear h₁
  walk_nrm
  refine Go1.bind (fun _ a => RS.refl a) (toI_gl hF.low hF.glob (hF.base (f := .arg A x) (by simp)).2 (hF.base (f := .arg A x) (by simp)).1 hxn) ?_
  rintro t g w' ⟨y0, rfl, hK⟩
  replace hF := hF.copy hK
  clear hK
  refine gl_go (n := 100) ?_
  walk_nrm
  u_in rl hF
  refine goes_oper_k rfl rfl (by k_ne) (fun K hK => ?_)
  go_simp
  refine hK _ _ ⟨?_, ?_⟩
  · refine de1_none ?_
    intro e he
    have hm := mem_listed he
    simp [go_sem, *] at hm
  clear hK K
  try w_num
  u_in rl hF
  refine goes_call rfl rfl (by k_ne) rfl Try.func13 nm_toI rfl ⟨by (refine de1_none ?_; intro e he; simp at he), ?_⟩
  rw [← enter_at _ Try.func13 rfl]
  refine Goes.stop fun w₁ h₁ => ?_
  replace hF := rl hF h₁
  clear h₁
  walk_nrm
  refine Go1.bind (fun _ a => RS.refl a) (toI_gl hF.low hF.glob (hF.base (f := .arg A2 sl) (by simp)).2 (hF.base (f := .arg A2 sl) (by simp)).1 hsn) ?_
  rintro t g w' ⟨y1, rfl, hK⟩
  replace hF := hF.copy hK
  clear hK
  refine gl_go (n := 100) ?_
  walk_nrm
  u_in rl hF
  refine goes_oper_k rfl rfl (by k_ne) (fun K hK => ?_)
  go_simp
  refine hK _ _ ⟨?_, ?_⟩
  · refine de1_none ?_
    intro e he
    have hm := mem_listed he
    simp [go_sem, *] at hm
  clear hK K
  try w_num
  u_in rl hF
  refine goes_call rfl rfl (by k_ne) rfl Try.func24 nm_iRows rfl ⟨by (refine de1_none ?_; intro e he; simp at he), ?_⟩
  rw [← enter_at _ Try.func24 rfl]
  refine Goes.stop fun w₁ h₁ => Go1.stop fun w₂ h₂ => ?_
  replace hF := rl (rl hF h₁) h₂
  walk_nrm
  refine ⟨_, y0, y1, rfl, ?_⟩
  exact ⟨rfl, rfl, rfl, rfl, rfl, hF⟩
end
end Go.Proofs.Ytmmolicodlmlkaa.Ph
namespace Go.Proofs.Ytmmolicodlmlkaa.Ph
open Go.Conc Go.ConcN Go.RowKit Go.Conc.Lib Go.ConcR.Gen Go.ConcN.Gen
open Go.ConcR (KK wgBlock WgAt stA smA rd wr mk DC0 Payload)
open Go.Proofs.Ytmmolicodlmlkaa.Rel
set_option linter.unusedVariables false
set_option linter.unusedSimpArgs false

/-- The last frame's return. -/
theorem stepG_done {P : Program} {b : Frame} {a : Act} {todo : List Item} {w : World} {fn : Func} {t : Tmp} (hn : b.kind = .normal) (hd : a.defers = []) (hf : P.funcs[b.fn]? = some fn) (hr : fn.results = #[.tmp t]) (hi : P.inits.idxOf? b.fn = none) :
    stepG P true (G { b.at a todo with mode := .returning } []) w = .ended (.done (a.tmps.getD t undef)) w #[] := by
  have h1 := results_tmp hr a.tmps P w
  have h2 := events_results_tmp (P := P) (w := w) hr a.tmps #[]
  simp [G, stepG, unwind, doReturn, Frame.at, hn, hd, hf, h1, h2, hi, seen, GStep.after]
/-- The law's end. -/
def LawEnd (W₀ : World) (S : Nat → Prop) (g : Goroutine) (w : World) : Prop := g.status = .running ∧ ∀ w₁, RS No S w w₁ → ∃ v, stepG Try.prog true g w₁ = .ended (.done v) w₁ #[] ∧ v = .bool true ∧ Below W₀.heap.size W₀ w₁
section
variable {W₀ : World} {S : Nat → Prop} {w : World} {A A2 Aw Ag Ah : Option Addr} {c c2 cw cg ch y0 y1 : Nat} {x sl : List Int} {xss : List (List Int)} {g1 : Bool} {T : Array Value} {F Gg Gh : Nat → Prop}
set_option maxRecDepth 100000 in
set_option maxHeartbeats 8000000 in
theorem law_c (hF : LH W₀ [.ss Aw xss, .arg A x, .arg A2 sl] F [(Gh, .sso Ah xss), ((fun y => y = y1), .own (some ⟨y1, 0, none⟩) sl), ((fun y => y = y0), .own (some ⟨y0, 0, none⟩) x), (Gg, .sso Ag (marksLL 1 xss))] S w) (hxl : xss.length ≤ 1048576) (hxe : ∀ e ∈ xss, e.length ≤ 1048576) (hsum : sumLL xss ≤ 100000000)
    (hT : T.size = 119) (h7 : T[7]? = some (.slice Aw xss.length cw)) (h8 : T[8]? = some (.bool g1)) (h11 : T[11]? = some (.slice Ag xss.length cg)) (h14 : T[14]? = some (.int .i64 (1 + sumLL xss))) :
    GL Try.prog (LawEnd W₀) S (G ((base 5).at (Act.put ⟨T, []⟩ ((lr28[5]?).bind (·.dst)) (.tuple #[.slice Ah xss.length ch, .bool g1])) [.inRegion lr28 [6, 7, 8, 9, 10], .code lc29]) []) w := by
  have rl : ∀ {l : List Fc} {F : Nat → Prop} {own : List ((Nat → Prop) × Fc)} {S : Nat → Prop} {a b : World}, LH W₀ l F own S a → RS No S a b → LH W₀ l F own S b := fun h r => h.rely r
  obtain ⟨v, rfl⟩ := litT hT
  replace h7 : v 7 = .slice Aw xss.length cw := Option.some.inj h7
  replace h8 : v 8 = .bool g1 := Option.some.inj h8
  replace h11 : v 11 = .slice Ag xss.length cg := Option.some.inj h11
  replace h14 : v 14 = .int .i64 (1 + sumLL xss) := Option.some.inj h14
  rw [h7, h8, h11, h14]
  clear h7 h8 h11 h14 hT
  have hnq : ¬ ((1 : Int) + (sumLL xss : Int) < 0) := by omega
  have hev1 := ev_neq_bool
  have hev2 := ev_neq_int
  refine gl_go (n := 100) ?_
  simp only [lr28, lc29, Try.f5]
  walk_nrm
  u_in rl hF
  refine goes_oper_k rfl rfl (by k_ne) (fun K hK => ?_)
  go_simp
  refine hK _ _ ⟨?_, ?_⟩
  · refine de1_none ?_
    intro e he
    have hm := mem_listed he
    simp [go_sem, *] at hm
  clear hK K
  try w_num
  u_in rl hF
  refine goes_oper_k rfl rfl (by k_ne) (fun K hK => ?_)
  go_simp
  refine hK _ _ ⟨?_, ?_⟩
  · refine de1_none ?_
    intro e he
    have hm := mem_listed he
    simp [go_sem, *] at hm
  clear hK K
  try w_num
  u_in rl hF
  refine goes_oper_k rfl rfl (by k_ne) (fun K hK => ?_)
  go_simp
  refine hK _ _ ⟨?_, ?_⟩
  · refine de1_none ?_
    intro e he
    have hm := mem_listed he
    simp [go_sem, *] at hm
  clear hK K
  try w_num
  u_in rl hF
  refine goes_oper_k rfl rfl (by k_ne) (fun K hK => ?_)
  go_simp
  refine hK _ _ ⟨?_, ?_⟩
  · refine de1_none ?_
    intro e he
    have hm := mem_listed he
    simp [go_sem, *] at hm
  clear hK K
  try w_num
  u_in rl hF
  refine goes_oper_k rfl rfl (by k_ne) (fun K hK => ?_)
  go_simp
  refine hK _ _ ⟨?_, ?_⟩
  · refine de1_none ?_
    intro e he
    have hm := mem_listed he
    simp [go_sem, *] at hm
  clear hK K
  try w_num
  (u_in rl hF; rw [stepG_region_end]; simp only [goes_go]; refine ⟨by (refine de1_none ?_; intro e he; simp at he), ?_⟩)
  -- region 29
  (u_in rl hF; rw [stepG_seq]; simp only [goes_go]; refine ⟨by (refine de1_none ?_; intro e he; simp at he), ?_⟩)
  (u_in rl hF; rw [stepG_seq]; simp only [goes_go]; refine ⟨by (refine de1_none ?_; intro e he; simp at he), ?_⟩)
  (u_in rl hF; rw [stepG_region]; simp only [goes_go, List.size_toArray, List.length_cons, List.length_nil, Nat.reduceAdd, Nat.zero_add, List.range, List.range.loop]; refine ⟨by (refine de1_none ?_; intro e he; simp at he), ?_⟩)
  u_in rl hF
  refine goes_oper_k rfl rfl (by k_ne) (fun K hK => ?_)
  go_simp
  refine hK _ _ ⟨?_, ?_⟩
  · refine de1_none ?_
    intro e he
    have hm := mem_listed he
    simp [go_sem, *] at hm
  clear hK K
  try w_num
  u_in rl hF
  refine goes_oper_k rfl rfl (by k_ne) (fun K hK => ?_)
  go_simp
  refine hK _ _ ⟨?_, ?_⟩
  · refine de1_none ?_
    intro e he
    have hm := mem_listed he
    simp [go_sem, *] at hm
  clear hK K
  try w_num
  u_in rl hF
  refine goes_call rfl rfl (by k_ne) rfl Try.func20 nm_eqSS rfl ⟨by (refine de1_none ?_; intro e he; simp at he), ?_⟩
  rw [← enter_at _ Try.func20 rfl]
  refine Goes.stop fun w₁ h₁ => ?_
  replace hF := rl hF h₁
  clear h₁
  walk_nrm
  refine Go1.bind (fun _ a => RS.refl a) (eqSS_gl hF.lf (hF.mine (p := (Gh, .sso Ah xss)) (.head _)).1 (hF.base (f := .ss Aw xss) (by simp)) hxl hxe) ?_
  rintro t g w' ⟨rfl, hK⟩
  replace hF := hF.lk hK
  clear hK
  refine gl_go (n := 100) ?_
  walk_nrm
  u_in rl hF
  refine goes_oper_k rfl rfl (by k_ne) (fun K hK => ?_)
  go_simp
  refine hK _ _ ⟨?_, ?_⟩
  · refine de1_none ?_
    intro e he
    have hm := mem_listed he
    simp [go_sem, *] at hm
  clear hK K
  try w_num
  u_in rl hF
  refine goes_oper_k rfl rfl (by k_ne) (fun K hK => ?_)
  go_simp
  refine hK _ _ ⟨?_, ?_⟩
  · refine de1_none ?_
    intro e he
    have hm := mem_listed he
    simp [go_sem, *] at hm
  clear hK K
  try w_num
  u_in rl hF
  refine goes_oper_k rfl rfl (by k_ne) (fun K hK => ?_)
  go_simp
  refine hK _ _ ⟨?_, ?_⟩
  · refine de1_none ?_
    intro e he
    have hm := mem_listed he
    simp [go_sem, *] at hm
  clear hK K
  try w_num
  u_in rl hF
  refine goes_oper_k rfl rfl (by k_ne) (fun K hK => ?_)
  go_simp
  refine hK _ _ ⟨?_, ?_⟩
  · refine de1_none ?_
    intro e he
    have hm := mem_listed he
    simp [go_sem, *] at hm
  clear hK K
  try w_num
  u_in rl hF
  refine goes_oper_k rfl rfl (by k_ne) (fun K hK => ?_)
  go_simp
  refine hK _ _ ⟨?_, ?_⟩
  · refine de1_none ?_
    intro e he
    have hm := mem_listed he
    simp [go_sem, *] at hm
  clear hK K
  try w_num
  u_in rl hF
  refine goes_oper_k rfl rfl (by k_ne) (fun K hK => ?_)
  go_simp
  refine hK _ _ ⟨?_, ?_⟩
  · refine de1_none ?_
    intro e he
    have hm := mem_listed he
    simp [go_sem, *] at hm
  clear hK K
  try w_num
  (u_in rl hF; rw [stepG_region_end]; simp only [goes_go]; refine ⟨by (refine de1_none ?_; intro e he; simp at he), ?_⟩)
  (u_in rl hF; rw [stepG_cond (t := false) (by first | rfl | (simp [Act.eval]; omega))]; simp only [goes_go, if_true, if_false, Bool.false_eq_true, ↓reduceIte]; refine ⟨by (refine de1_none ?_; intro e he; simp at he), ?_⟩)
  (u_in rl hF; rw [stepG_skip]; simp only [goes_go]; refine ⟨by (refine de1_none ?_; intro e he; simp at he), ?_⟩)
  -- region 31
  (u_in rl hF; rw [stepG_seq]; simp only [goes_go]; refine ⟨by (refine de1_none ?_; intro e he; simp at he), ?_⟩)
  (u_in rl hF; rw [stepG_region]; simp only [goes_go, List.size_toArray, List.length_cons, List.length_nil, Nat.reduceAdd, Nat.zero_add, List.range, List.range.loop]; refine ⟨by (refine de1_none ?_; intro e he; simp at he), ?_⟩)
  u_in rl hF
  refine goes_oper_k rfl rfl (by k_ne) (fun K hK => ?_)
  go_simp
  refine hK _ _ ⟨?_, ?_⟩
  · refine de1_none ?_
    intro e he
    have hm := mem_listed he
    simp [go_sem, *] at hm
  clear hK K
  try w_num
  (u_in rl hF; rw [stepG_region_end]; simp only [goes_go]; refine ⟨by (refine de1_none ?_; intro e he; simp at he), ?_⟩)
  -- region 32
  (u_in rl hF; rw [stepG_seq]; simp only [goes_go]; refine ⟨by (refine de1_none ?_; intro e he; simp at he), ?_⟩)
  (u_in rl hF; rw [stepG_region]; simp only [goes_go, List.size_toArray, List.length_cons, List.length_nil, Nat.reduceAdd, Nat.zero_add, List.range, List.range.loop]; refine ⟨by (refine de1_none ?_; intro e he; simp at he), ?_⟩)
  u_in rl hF
  refine goes_oper_k rfl rfl (by k_ne) (fun K hK => ?_)
  go_simp
  refine hK _ _ ⟨?_, ?_⟩
  · refine de1_none ?_
    intro e he
    have hm := mem_listed he
    simp [go_sem, *] at hm
  clear hK K
  try w_num
  u_in rl hF
  refine goes_oper_k rfl rfl (by k_ne) (fun K hK => ?_)
  go_simp
  refine hK _ _ ⟨?_, ?_⟩
  · refine de1_none ?_
    intro e he
    have hm := mem_listed he
    simp [go_sem, *] at hm
  clear hK K
  try w_num
  u_in rl hF
  refine goes_call rfl rfl (by k_ne) rfl Try.func22 nm_heldSS rfl ⟨by (refine de1_none ?_; intro e he; simp at he), ?_⟩
  rw [← enter_at _ Try.func22 rfl]
  refine Goes.stop fun w₁ h₁ => ?_
  replace hF := rl hF h₁
  clear h₁
  walk_nrm
  refine Go1.bind (fun _ a => RS.refl a) (heldSS_gl hF.lf (hF.mine (p := (Gg, .sso Ag (marksLL 1 xss))) (.tail _ (.tail _ (.tail _ (.head _))))).1 hxl hxe (by omega) (by omega)) ?_
  rintro t g w' ⟨rfl, hK⟩
  replace hF := hF.lk hK
  clear hK
  refine gl_go (n := 100) ?_
  walk_nrm
  u_in rl hF
  refine goes_oper_k rfl rfl (by k_ne) (fun K hK => ?_)
  go_simp
  refine hK _ _ ⟨?_, ?_⟩
  · refine de1_none ?_
    intro e he
    have hm := mem_listed he
    simp [go_sem, *] at hm
  clear hK K
  try w_num
  (u_in rl hF; rw [stepG_region_end]; simp only [goes_go]; refine ⟨by (refine de1_none ?_; intro e he; simp at he), ?_⟩)
  -- region 33
  (u_in rl hF; rw [stepG_seq]; simp only [goes_go]; refine ⟨by (refine de1_none ?_; intro e he; simp at he), ?_⟩)
  (u_in rl hF; rw [stepG_seq]; simp only [goes_go]; refine ⟨by (refine de1_none ?_; intro e he; simp at he), ?_⟩)
  (u_in rl hF; rw [stepG_region]; simp only [goes_go, List.size_toArray, List.length_cons, List.length_nil, Nat.reduceAdd, Nat.zero_add, List.range, List.range.loop]; refine ⟨by (refine de1_none ?_; intro e he; simp at he), ?_⟩)
  u_in rl hF
  refine goes_oper_k rfl rfl (by k_ne) (fun K hK => ?_)
  go_simp
  refine hK _ _ ⟨?_, ?_⟩
  · refine de1_none ?_
    intro e he
    have hm := mem_listed he
    simp [go_sem, *] at hm
  clear hK K
  try w_num
  u_in rl hF
  refine goes_oper_k rfl rfl (by k_ne) (fun K hK => ?_)
  go_simp
  refine hK _ _ ⟨?_, ?_⟩
  · refine de1_none ?_
    intro e he
    have hm := mem_listed he
    simp [go_sem, *] at hm
  clear hK K
  try w_num
  (u_in rl hF; rw [stepG_region_end]; simp only [goes_go]; refine ⟨by (refine de1_none ?_; intro e he; simp at he), ?_⟩)
  (u_in rl hF; rw [stepG_cond (t := false) (by first | rfl | (simp [Act.eval]; omega))]; simp only [goes_go, if_true, if_false, Bool.false_eq_true, ↓reduceIte]; refine ⟨by (refine de1_none ?_; intro e he; simp at he), ?_⟩)
  (u_in rl hF; rw [stepG_skip]; simp only [goes_go]; refine ⟨by (refine de1_none ?_; intro e he; simp at he), ?_⟩)
  -- region 35
  (u_in rl hF; rw [stepG_seq]; simp only [goes_go]; refine ⟨by (refine de1_none ?_; intro e he; simp at he), ?_⟩)
  (u_in rl hF; rw [stepG_seq]; simp only [goes_go]; refine ⟨by (refine de1_none ?_; intro e he; simp at he), ?_⟩)
  (u_in rl hF; rw [stepG_region]; simp only [goes_go, List.size_toArray, List.length_cons, List.length_nil, Nat.reduceAdd, Nat.zero_add, List.range, List.range.loop]; refine ⟨by (refine de1_none ?_; intro e he; simp at he), ?_⟩)
  u_in rl hF
  refine goes_oper_k rfl rfl (by k_ne) (fun K hK => ?_)
  go_simp
  refine hK _ _ ⟨?_, ?_⟩
  · refine de1_none ?_
    intro e he
    have hm := mem_listed he
    simp [go_sem, *] at hm
  clear hK K
  try w_num
  u_in rl hF
  refine goes_oper_k rfl rfl (by k_ne) (fun K hK => ?_)
  go_simp
  refine hK _ _ ⟨?_, ?_⟩
  · refine de1_none ?_
    intro e he
    have hm := mem_listed he
    simp [go_sem, *] at hm
  clear hK K
  try w_num
  u_in rl hF
  refine goes_oper_k rfl rfl (by k_ne) (fun K hK => ?_)
  go_simp
  refine hK _ _ ⟨?_, ?_⟩
  · refine de1_none ?_
    intro e he
    have hm := mem_listed he
    simp [go_sem, *] at hm
  clear hK K
  try w_num
  (u_in rl hF; rw [stepG_region_end]; simp only [goes_go]; refine ⟨by (refine de1_none ?_; intro e he; simp at he), ?_⟩)
  (u_in rl hF; rw [stepG_cond (t := false) (by first | rfl | (simp [Act.eval]; omega))]; simp only [goes_go, if_true, if_false, Bool.false_eq_true, ↓reduceIte]; refine ⟨by (refine de1_none ?_; intro e he; simp at he), ?_⟩)
  (u_in rl hF; rw [stepG_skip]; simp only [goes_go]; refine ⟨by (refine de1_none ?_; intro e he; simp at he), ?_⟩)
  -- region 37
  (u_in rl hF; rw [stepG_seq]; simp only [goes_go]; refine ⟨by (refine de1_none ?_; intro e he; simp at he), ?_⟩)
  (u_in rl hF; rw [stepG_region]; simp only [goes_go, List.size_toArray, List.length_cons, List.length_nil, Nat.reduceAdd, Nat.zero_add, List.range, List.range.loop]; refine ⟨by (refine de1_none ?_; intro e he; simp at he), ?_⟩)
  u_in rl hF
  refine goes_oper_k rfl rfl (by k_ne) (fun K hK => ?_)
  go_simp
  refine hK _ _ ⟨?_, ?_⟩
  · refine de1_none ?_
    intro e he
    have hm := mem_listed he
    simp [go_sem, *] at hm
  clear hK K
  try w_num
  (u_in rl hF; rw [stepG_region_end]; simp only [goes_go]; refine ⟨by (refine de1_none ?_; intro e he; simp at he), ?_⟩)
  (u_in rl hF; rw [stepG_ret']; simp only [goes_go]; refine ⟨by (refine de1_none ?_; intro e he; simp at he), ?_⟩)
  refine Goes.stop fun w₁ h₁ => Go1.stop fun w₂ h₂ => ⟨rfl, fun w₃ h₃ => ⟨_, stepG_done rfl rfl Try.func5 rfl (by kernel_rfl), rfl, (rl (rl (rl hF h₁) h₂) h₃).below⟩⟩
end
end Go.Proofs.Ytmmolicodlmlkaa.Ph
namespace Go.Proofs.Ytmmolicodlmlkaa.Ph
open Go.Conc Go.ConcN Go.RowKit Go.Conc.Lib Go.ConcR.Gen Go.ConcN.Gen
open Go.ConcR (KK wgBlock WgAt stA smA rd wr mk DC0 Payload)
open Go.Proofs.Ytmmolicodlmlkaa.Rel
set_option linter.unusedVariables false
set_option linter.unusedSimpArgs false

section
variable {W₀ : World} {S : Nat → Prop} {w : World} {A A2 : Option Addr} {c c2 : Nat} {x sl : List Int} {kw : Int}
set_option maxRecDepth 100000 in
set_option maxHeartbeats 8000000 in
theorem law_gate1 {F : Nat → Prop} (hF : LH W₀ [.arg A x, .arg A2 sl] F [] S w) (hxn : 1048576 < x.length) :
    GL Try.prog (LawEnd W₀) S (G (Frame.enter Try.prog 5 #[.slice A x.length c, .slice A2 sl.length c2, .int .i64 kw] .normal) []) w := by
  have rl : ∀ {l : List Fc} {F : Nat → Prop} {own : List ((Nat → Prop) × Fc)} {S : Nat → Prop} {a b : World}, LH W₀ l F own S a → RS No S a b → LH W₀ l F own S b := fun h r => h.rely r
  rw [enter_at _ Try.func5 rfl]
  refine gl_go (n := 100) ?_
  walk_nrmf Try.f5
  (u_in rl hF; rw [stepG_seq]; simp only [goes_go]; refine ⟨by (refine de1_none ?_; intro e he; simp at he), ?_⟩)
  (u_in rl hF; rw [stepG_region]; simp only [goes_go, List.size_toArray, List.length_cons, List.length_nil, Nat.reduceAdd, Nat.zero_add, List.range, List.range.loop]; refine ⟨by (refine de1_none ?_; intro e he; simp at he), ?_⟩)
  u_in rl hF
  refine goes_oper_k rfl rfl (by k_ne) (fun K hK => ?_)
  go_simp
  refine hK _ _ ⟨?_, ?_⟩
  · refine de1_none ?_
    intro e he
    have hm := mem_listed he
    simp [go_sem, *] at hm
  clear hK K
  try w_num
  (u_in rl hF; rw [stepG_region_end]; simp only [goes_go]; refine ⟨by (refine de1_none ?_; intro e he; simp at he), ?_⟩)
  (u_in rl hF; rw [stepG_seq]; simp only [goes_go]; refine ⟨by (refine de1_none ?_; intro e he; simp at he), ?_⟩)
  (u_in rl hF; rw [stepG_seq]; simp only [goes_go]; refine ⟨by (refine de1_none ?_; intro e he; simp at he), ?_⟩)
  (u_in rl hF; rw [stepG_region]; simp only [goes_go, List.size_toArray, List.length_cons, List.length_nil, Nat.reduceAdd, Nat.zero_add, List.range, List.range.loop]; refine ⟨by (refine de1_none ?_; intro e he; simp at he), ?_⟩)
  u_in rl hF
  refine goes_oper_k rfl rfl (by k_ne) (fun K hK => ?_)
  go_simp
  refine hK _ _ ⟨?_, ?_⟩
  · refine de1_none ?_
    intro e he
    have hm := mem_listed he
    simp [go_sem, *] at hm
  clear hK K
  try w_num
  u_in rl hF
  refine goes_oper_k rfl rfl (by k_ne) (fun K hK => ?_)
  go_simp
  refine hK _ _ ⟨?_, ?_⟩
  · refine de1_none ?_
    intro e he
    have hm := mem_listed he
    simp [go_sem, *] at hm
  clear hK K
  try w_num
  u_in rl hF
  refine goes_oper_k rfl rfl (by k_ne) (fun K hK => ?_)
  go_simp
  refine hK _ _ ⟨?_, ?_⟩
  · refine de1_none ?_
    intro e he
    have hm := mem_listed he
    simp [go_sem, *] at hm
  clear hK K
  try w_num
  (u_in rl hF; rw [stepG_region_end]; simp only [goes_go]; refine ⟨by (refine de1_none ?_; intro e he; simp at he), ?_⟩)
  (u_in rl hF; rw [stepG_cond (t := true) (by first | rfl | (simp [Act.eval]; omega))]; simp only [goes_go, if_true, if_false, Bool.false_eq_true, ↓reduceIte]; refine ⟨by (refine de1_none ?_; intro e he; simp at he), ?_⟩)
  (u_in rl hF; rw [stepG_seq]; simp only [goes_go]; refine ⟨by (refine de1_none ?_; intro e he; simp at he), ?_⟩)
  (u_in rl hF; rw [stepG_region]; simp only [goes_go, List.size_toArray, List.length_cons, List.length_nil, Nat.reduceAdd, Nat.zero_add, List.range, List.range.loop]; refine ⟨by (refine de1_none ?_; intro e he; simp at he), ?_⟩)
  u_in rl hF
  refine goes_oper_k rfl rfl (by k_ne) (fun K hK => ?_)
  go_simp
  refine hK _ _ ⟨?_, ?_⟩
  · refine de1_none ?_
    intro e he
    have hm := mem_listed he
    simp [go_sem, *] at hm
  clear hK K
  try w_num
  (u_in rl hF; rw [stepG_region_end]; simp only [goes_go]; refine ⟨by (refine de1_none ?_; intro e he; simp at he), ?_⟩)
  (u_in rl hF; rw [stepG_ret']; simp only [goes_go]; refine ⟨by (refine de1_none ?_; intro e he; simp at he), ?_⟩)
  refine Goes.stop fun w₁ h₁ => Go1.stop fun w₂ h₂ => ⟨rfl, fun w₃ h₃ => ⟨_, stepG_done rfl rfl Try.func5 rfl (by kernel_rfl), rfl, (rl (rl (rl hF h₁) h₂) h₃).below⟩⟩
set_option maxRecDepth 100000 in
set_option maxHeartbeats 8000000 in
theorem law_gate2 {F : Nat → Prop} (hF : LH W₀ [.arg A x, .arg A2 sl] F [] S w) (hxn : x.length ≤ 1048576) (hsn : 1048576 < sl.length) :
    GL Try.prog (LawEnd W₀) S (G (Frame.enter Try.prog 5 #[.slice A x.length c, .slice A2 sl.length c2, .int .i64 kw] .normal) []) w := by
  have rl : ∀ {l : List Fc} {F : Nat → Prop} {own : List ((Nat → Prop) × Fc)} {S : Nat → Prop} {a b : World}, LH W₀ l F own S a → RS No S a b → LH W₀ l F own S b := fun h r => h.rely r
  rw [enter_at _ Try.func5 rfl]
  refine gl_go (n := 100) ?_
  walk_nrmf Try.f5
  (u_in rl hF; rw [stepG_seq]; simp only [goes_go]; refine ⟨by (refine de1_none ?_; intro e he; simp at he), ?_⟩)
  (u_in rl hF; rw [stepG_region]; simp only [goes_go, List.size_toArray, List.length_cons, List.length_nil, Nat.reduceAdd, Nat.zero_add, List.range, List.range.loop]; refine ⟨by (refine de1_none ?_; intro e he; simp at he), ?_⟩)
  u_in rl hF
  refine goes_oper_k rfl rfl (by k_ne) (fun K hK => ?_)
  go_simp
  refine hK _ _ ⟨?_, ?_⟩
  · refine de1_none ?_
    intro e he
    have hm := mem_listed he
    simp [go_sem, *] at hm
  clear hK K
  try w_num
  (u_in rl hF; rw [stepG_region_end]; simp only [goes_go]; refine ⟨by (refine de1_none ?_; intro e he; simp at he), ?_⟩)
  (u_in rl hF; rw [stepG_seq]; simp only [goes_go]; refine ⟨by (refine de1_none ?_; intro e he; simp at he), ?_⟩)
  (u_in rl hF; rw [stepG_seq]; simp only [goes_go]; refine ⟨by (refine de1_none ?_; intro e he; simp at he), ?_⟩)
  (u_in rl hF; rw [stepG_region]; simp only [goes_go, List.size_toArray, List.length_cons, List.length_nil, Nat.reduceAdd, Nat.zero_add, List.range, List.range.loop]; refine ⟨by (refine de1_none ?_; intro e he; simp at he), ?_⟩)
  u_in rl hF
  refine goes_oper_k rfl rfl (by k_ne) (fun K hK => ?_)
  go_simp
  refine hK _ _ ⟨?_, ?_⟩
  · refine de1_none ?_
    intro e he
    have hm := mem_listed he
    simp [go_sem, *] at hm
  clear hK K
  try w_num
  u_in rl hF
  refine goes_oper_k rfl rfl (by k_ne) (fun K hK => ?_)
  go_simp
  refine hK _ _ ⟨?_, ?_⟩
  · refine de1_none ?_
    intro e he
    have hm := mem_listed he
    simp [go_sem, *] at hm
  clear hK K
  try w_num
  u_in rl hF
  refine goes_oper_k rfl rfl (by k_ne) (fun K hK => ?_)
  go_simp
  refine hK _ _ ⟨?_, ?_⟩
  · refine de1_none ?_
    intro e he
    have hm := mem_listed he
    simp [go_sem, *] at hm
  clear hK K
  try w_num
  (u_in rl hF; rw [stepG_region_end]; simp only [goes_go]; refine ⟨by (refine de1_none ?_; intro e he; simp at he), ?_⟩)
  (u_in rl hF; rw [stepG_cond (t := false) (by first | rfl | (simp [Act.eval]; omega))]; simp only [goes_go, if_true, if_false, Bool.false_eq_true, ↓reduceIte]; refine ⟨by (refine de1_none ?_; intro e he; simp at he), ?_⟩)
  (u_in rl hF; rw [stepG_skip]; simp only [goes_go]; refine ⟨by (refine de1_none ?_; intro e he; simp at he), ?_⟩)
  (u_in rl hF; rw [stepG_seq]; simp only [goes_go]; refine ⟨by (refine de1_none ?_; intro e he; simp at he), ?_⟩)
  (u_in rl hF; rw [stepG_seq]; simp only [goes_go]; refine ⟨by (refine de1_none ?_; intro e he; simp at he), ?_⟩)
  (u_in rl hF; rw [stepG_region]; simp only [goes_go, List.size_toArray, List.length_cons, List.length_nil, Nat.reduceAdd, Nat.zero_add, List.range, List.range.loop]; refine ⟨by (refine de1_none ?_; intro e he; simp at he), ?_⟩)
  u_in rl hF
  refine goes_oper_k rfl rfl (by k_ne) (fun K hK => ?_)
  go_simp
  refine hK _ _ ⟨?_, ?_⟩
  · refine de1_none ?_
    intro e he
    have hm := mem_listed he
    simp [go_sem, *] at hm
  clear hK K
  try w_num
  u_in rl hF
  refine goes_oper_k rfl rfl (by k_ne) (fun K hK => ?_)
  go_simp
  refine hK _ _ ⟨?_, ?_⟩
  · refine de1_none ?_
    intro e he
    have hm := mem_listed he
    simp [go_sem, *] at hm
  clear hK K
  try w_num
  u_in rl hF
  refine goes_oper_k rfl rfl (by k_ne) (fun K hK => ?_)
  go_simp
  refine hK _ _ ⟨?_, ?_⟩
  · refine de1_none ?_
    intro e he
    have hm := mem_listed he
    simp [go_sem, *] at hm
  clear hK K
  try w_num
  (u_in rl hF; rw [stepG_region_end]; simp only [goes_go]; refine ⟨by (refine de1_none ?_; intro e he; simp at he), ?_⟩)
  (u_in rl hF; rw [stepG_cond (t := true) (by first | rfl | (simp [Act.eval]; omega))]; simp only [goes_go, if_true, if_false, Bool.false_eq_true, ↓reduceIte]; refine ⟨by (refine de1_none ?_; intro e he; simp at he), ?_⟩)
  (u_in rl hF; rw [stepG_seq]; simp only [goes_go]; refine ⟨by (refine de1_none ?_; intro e he; simp at he), ?_⟩)
  (u_in rl hF; rw [stepG_region]; simp only [goes_go, List.size_toArray, List.length_cons, List.length_nil, Nat.reduceAdd, Nat.zero_add, List.range, List.range.loop]; refine ⟨by (refine de1_none ?_; intro e he; simp at he), ?_⟩)
  u_in rl hF
  refine goes_oper_k rfl rfl (by k_ne) (fun K hK => ?_)
  go_simp
  refine hK _ _ ⟨?_, ?_⟩
  · refine de1_none ?_
    intro e he
    have hm := mem_listed he
    simp [go_sem, *] at hm
  clear hK K
  try w_num
  (u_in rl hF; rw [stepG_region_end]; simp only [goes_go]; refine ⟨by (refine de1_none ?_; intro e he; simp at he), ?_⟩)
  (u_in rl hF; rw [stepG_ret']; simp only [goes_go]; refine ⟨by (refine de1_none ?_; intro e he; simp at he), ?_⟩)
  refine Goes.stop fun w₁ h₁ => Go1.stop fun w₂ h₂ => ⟨rfl, fun w₃ h₃ => ⟨_, stepG_done rfl rfl Try.func5 rfl (by kernel_rfl), rfl, (rl (rl (rl hF h₁) h₂) h₃).below⟩⟩
end
theorem res_rows {g : Bool} {x sl : List Int} : ∀ e ∈ resOf g x sl, e.length = x.length := by
  intro e he
  cases g with
  | false => simp [resOf] at he
  | true =>
    simp only [resOf, if_true, rowsOf, List.mem_map] at he
    obtain ⟨s, _, rfl⟩ := he
    exact rowH_length _ _ _
theorem sum_const {n : Nat} : ∀ (xss : List (List Int)), (∀ e ∈ xss, e.length = n) → sumLL xss = xss.length * n
  | [], _ => by simp [sumLL]
  | x :: xss, h => by
    rw [sumLL, sum_const xss fun e he => h e (List.mem_cons_of_mem _ he), h x List.mem_cons_self, List.length_cons, Nat.succ_mul, Nat.add_comm]
theorem sum_res {x sl : List Int} {kw : Int} : sumLL (resOf (gateRS x sl kw) x sl) ≤ 100000000 := by
  cases hg : gateRS x sl kw with
  | false => simp [resOf, sumLL]
  | true =>
    simp only [gateRS, Bool.and_eq_true, decide_eq_true_eq] at hg
    obtain ⟨⟨⟨h1, h2⟩, _⟩, _⟩ := hg
    obtain ⟨h3, _⟩ := keysQ_iff h1
    rw [sum_const _ res_rows, res_length true x sl rfl]
    have := Nat.mul_le_mul h2 h3
    omega
/-- The run's pieces, put together. -/
theorem ends_at {W₀ : World} {Shun : Loc → Prop} {S : Nat → Prop} {g : Goroutine} {w : World} {m m0 : Machine} {t t0 : Trace} {K : Nat} (hr : runNT Try.prog K m0 t0 = (.next m, t)) (h : At Try.prog Shun g w m t) (hS : ∀ y, S y → FreeB Shun w y) (hG : GL Try.prog (LawEnd W₀) S g w) :
    ∃ M last o w' t', runNT Try.prog (M + 1) m0 t0 = (.ended o w', t') ∧ runN Try.prog M m0 = .next last ∧ step Try.prog last = .ended o w' ∧ Go.Conc.Good Try.prog (fun v W' => v = .bool true ∧ Below W₀.heap.size W₀ W') last o w' t' := by
  obtain ⟨⟨gs, sl, q, rfl, h0, hL⟩, hs⟩ := h
  have hfr := FreeB.free (w := w) hs
  obtain ⟨N, last, o, w', t', e1, e2, e3, e4⟩ := ends (Post := fun v W' => v = .bool true ∧ Below W₀.heap.size W₀ W') (sl := sl) h0 hL (S := S) ⟨fun l hl => hfr.free l (by
    cases l with
    | cell a => exact hS _ hl
    | obj r => exact hS _ hl
    | output => exact hl
    | goroutines => exact hl
    | mark m => exact hl), fun b hb => (hS b hb).1, hfr.shun⟩ hG
  refine ⟨K + N, last, o, w', t', ?_, ?_, e3, e4⟩
  · rw [Nat.add_assoc, runNT_add, hr]; exact e1
  · rw [runN_add, ← runNT_fst Try.prog _ _ t0, hr]; exact e2
/-- ████ FnExactRowsShared: ONE GOOD RUN. ████ -/
theorem law_runs {W : World} {A A2 : Option Addr} {c c2 : Nat} {x sl : List Int} {kw : Int} (hG : Try.prog.globals.size ≤ W.heap.size) (hx : RdL (Value.int .i64) W A x) (hs : RdL (Value.int .i64) W A2 sl) (hA : ∀ a, A = some a → a.block < W.heap.size ∧ plainO W.heap[a.block]? = true) (hA2 : ∀ a, A2 = some a → a.block < W.heap.size ∧ plainO W.heap[a.block]? = true) :
    ∃ M last o w' t', runNT Try.prog (M + 1) (solo (G (Frame.enter Try.prog 5 #[.slice A x.length c, .slice A2 sl.length c2, .int .i64 kw] .normal) []) W) #[] = (.ended o w', t') ∧
      runN Try.prog M (solo (G (Frame.enter Try.prog 5 #[.slice A x.length c, .slice A2 sl.length c2, .int .i64 kw] .normal) []) W) = .next last ∧ step Try.prog last = .ended o w' ∧ Go.Conc.Good Try.prog (fun v W' => v = .bool true ∧ Below W.heap.size W W') last o w' t' := by
  have hAt0 := at_start (P := Try.prog) (g := G (Frame.enter Try.prog 5 #[.slice A x.length c, .slice A2 sl.length c2, .int .i64 kw] .normal) []) (w := W)
  have hH0 : LH W [.arg A x, .arg A2 sl] (fun y => y < W.heap.size) [] (FreeB (fun _ => False) W) W :=
    ⟨⟨rfl, rfl, rfl⟩, fun y hy => ⟨hy, rfl⟩, fun y hy => hy.1, hG, fun f hf => by
      simp at hf
      rcases hf with rfl | rfl
      · exact ⟨hx, hA⟩
      · exact ⟨hs, hA2⟩, fun y hy => ⟨hy, fun l _ h => h⟩, by simp, List.Pairwise.nil⟩
  by_cases hxn : x.length ≤ 1048576
  rotate_left
  · exact ends_at (K := 0) rfl hAt0 (fun y hy => hy) (law_gate1 hH0 (by omega))
  by_cases hsn : sl.length ≤ 1048576
  rotate_left
  · exact ends_at (K := 0) rfl hAt0 (fun y hy => hy) (law_gate2 hH0 hxn (by omega))
  have hxl : (resOf (gateRS x sl kw) x sl).length ≤ 1048576 := by
    cases gateRS x sl kw with
    | false => simp [resOf]
    | true => rw [res_length true x sl rfl]; exact hsn
  have hxe : ∀ e ∈ resOf (gateRS x sl kw) x sl, e.length ≤ 1048576 := fun e he => by rw [res_rows e he]; exact hxn
  have hsum := sum_res (x := x) (sl := sl) (kw := kw)
  obtain ⟨K1, m1, t1, g1, w1, S1, r1, hAt1, ⟨T, Aw, cw, x0, x1, F', rfl, k1, k2, k3, k4, k5, k6, k7, k8, hH1⟩, hf1, _⟩ :=
    hAt0.walk (fun S g w d ⟨T, Aw, cw, x0, x1, F', h1, h2, h3, h4, h5, h6, h7, h8, h9, h10⟩ => ⟨T, Aw, cw, x0, x1, F', h1, h2, h3, h4, h5, h6, h7, h8, h9, h10.at⟩) (law_a (c := c) (c2 := c2) (kw := kw) hH0 hxn hsn)
  have o0 := hH1.mine (p := ((fun y => y = x0), .own (some ⟨x0, 0, none⟩) x)) (.tail _ (.head _))
  have o1 := hH1.mine (p := ((fun y => y = x1), .own (some ⟨x1, 0, none⟩) sl)) (.head _)
  obtain ⟨K2, m2, t2, w2, Shun2, Ag, cg, Gg, r2, hAt2, hH2⟩ := rows_at hAt1 hH1 hf1 o0.1.rd o1.1.rd hxn hsn o0.2 o1.2
  obtain ⟨K3, m3, t3, g3, w3, S3, r3, hAt3, ⟨T', y0, y1, rfl, j1, j2, j3, j4, j5, hH3⟩, hf3, _⟩ :=
    hAt2.walk (fun S g w d ⟨T, y0, y1, h1, h2, h3, h4, h5, h6, h7⟩ => ⟨T, y0, y1, h1, h2, h3, h4, h5, h6, h7.at⟩) (law_b (kw := kw) hH2 hxn hsn hxl hxe hsum k1 k2 k3 k4 k5 k6 k7 k8)
  have p0 := hH3.mine (p := ((fun y => y = y0), .own (some ⟨y0, 0, none⟩) x)) (.tail _ (.head _))
  have p1 := hH3.mine (p := ((fun y => y = y1), .own (some ⟨y1, 0, none⟩) sl)) (.head _)
  obtain ⟨K4, m4, t4, w4, Shun4, Ah, ch, Gh, r4, hAt4, hH4⟩ := rows_at hAt3 hH3 hf3 p0.1.rd p1.1.rd hxn hsn p0.2 p1.2
  exact ends_at (run_trans r1 (run_trans r2 (run_trans r3 r4))) hAt4 (fun y hy => hy) (law_c hH4 hxl hxe hsum j1 j2 j3 j4 j5)
end Go.Proofs.Ytmmolicodlmlkaa.Ph
