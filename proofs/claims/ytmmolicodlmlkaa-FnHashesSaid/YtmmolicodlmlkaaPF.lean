/-
  Parts of the proof: The starter's Add(1) of sync.WaitGroup, in company. PRINTED BY gen_wg.py. The starter's Wait of sync.WaitGroup, in company. PRINTED BY gen_wg.py. The starter of sharedWork, in company: its steps that make memory; what it knows. The starter of sharedWork: its loop, and into Wait. sharedWork at the machine: goroutine 0 calls it; it comes back; the others only leave. No condition.
-/
import Derived.Conc.WgGenN3
import Derived.Conc.WgWords
import Derived.Test.YtmmolicodlmlkaaPE
set_option linter.unusedVariables false
set_option linter.unusedSimpArgs false
namespace Go.Proofs.Ytmmolicodlmlkaa.Ph
open Go.Conc Go.ConcN Go.RowKit Go.Conc.Lib Go.ConcR.Gen Go.ConcN.Gen
open Go.ConcR (KK wgBlock WgAt stA smA rd wr mk DC0 Payload)
open Go.Proofs.Ytmmolicodlmlkaa.Rel (RS DS EvS Tr Sub GoT Go1)
set_option linter.unusedVariables false
set_option linter.unusedSimpArgs false

section
variable {P : Program} {ty : TypeId} {Wg C : Nat} {Rm S : Nat → Prop} {Stop : (Nat → Prop) → Goroutine → World → Prop} {g g' : Goroutine} {w : World}
theorem DM.of_dc0 {a b : World} {es : Array Event} (h : DC0 a b es) : DM Wg Rm S a b es S := by
  obtain ⟨rfl, rfl⟩ := h
  exact ⟨rfl, rfl, rfl, Nat.le_refl _, fun b => ⟨.inl, fun h => h.elim id fun h => by omega⟩, fun _ _ _ => rfl, by simp⟩
theorem dm_said {e : Event} (he : e = mk (.read (smA Wg)) ∨ e = mk (.write (smA Wg))) : DM Wg Rm S w w #[e] S :=
  ⟨rfl, rfl, rfl, Nat.le_refl _, fun b => ⟨.inl, fun h => h.elim id fun h => by omega⟩, fun _ _ _ => rfl, fun x hx => by simp at hx; subst hx; exact .inr he⟩
theorem gm_last {n : Nat} (h : Goes P true (RM ty Wg C Rm S) DC0 (Stop S) n g w) : GM P ty Wg C Rm Stop S g w := Go1.of_goes (fun _ _ h => h) (fun _ _ _ h => DM.of_dc0 h) (fun _ _ h => h) h
theorem gm_seg {n : Nat} (h : Goes P true (RM ty Wg C Rm S) DC0 (fun g w => GM P ty Wg C Rm Stop S g w) n g w) : GM P ty Wg C Rm Stop S g w :=
  Go1.bind (fun _ a => RM.refl a) (Go1.of_goes (Stop := fun S g w => GM P ty Wg C Rm Stop S g w) (fun _ _ h => h) (fun _ _ _ h => DM.of_dc0 h) (fun _ _ h => h) h) fun _ _ _ h => h
theorem gm_said {e : Event} (hr : g.status = .running) (h : ∀ w₁, RM ty Wg C Rm S w w₁ → stepG P true g w₁ = .go g' w₁ #[e]) (he : e = mk (.read (smA Wg)) ∨ e = mk (.write (smA Wg))) (k : ∀ w₁, RM ty Wg C Rm S w w₁ → GM P ty Wg C Rm Stop S g' w₁) : GM P ty Wg C Rm Stop S g w :=
  Go1.step hr fun w₁ h₁ => ⟨g', w₁, #[e], S, h w₁ h₁, dm_said he, k w₁ h₁⟩
end
section
variable {L : WgLink} {P : Program} {Wg C : Nat} {Rm S : Nat → Prop} {F : World → Prop} {mine : Nat → Nat → Prop} {Fact : Nat → (Nat → Prop) → World → Prop} {j : Nat} {Next : (Nat → Prop) → (Nat → Prop) → Goroutine → World → Prop}
  {b₀ : Frame} {a₀ : Act} {ops₀ : Array Oper} {i₀ : Nat} {rest₀ : List Nat} {k₀ : List Item} {cs : List Frame}
theorem flR (hF1 : ∀ a b, RM L.tWg Wg C Rm S a b → F a → F b) {w w₁ : World} (h : F w ∧ WgLive L.tWg Wg w) (r : RM L.tWg Wg C Rm S w w₁) : F w₁ ∧ WgLive L.tWg Wg w₁ := ⟨hF1 _ _ r h.1, r.live h.2⟩
set_option maxRecDepth 100000 in
set_option maxHeartbeats 8000000 in
theorem addPos (H : WgLib P L) (hF1 : ∀ a b, RM L.tWg Wg C Rm S a b → F a → F b) (hF2 : ∀ a b, Aside Wg a b → F a → F b)
    (hT : ∀ w, F w → WgLive L.tWg Wg w → GM P L.tWg Wg C Rm (MGo P L.tWg Wg C mine Fact j Next Rm) S (G (b₀.at (a₀.put ((ops₀[i₀]?).bind (·.dst)) (.tuple #[])) (.inRegion ops₀ rest₀ :: k₀)) cs) w) (w : World) (hK : F w ∧ WgLive L.tWg Wg w) :
    GM P L.tWg Wg C Rm (MKdS P L.tWg Wg C mine Fact j Next Rm) S (G ((base L.add).at ⟨#[.pointer (some ⟨Wg, 0, none⟩), .int .i64 1, undef, undef, undef, undef, undef, undef, undef, undef, undef, undef, undef, undef, undef, undef, undef, undef, undef, undef, undef, undef, undef, undef, undef, undef, undef, undef, undef, undef, undef, undef, undef, undef, undef, undef, undef, undef, undef, undef, undef, undef, undef, undef, undef, undef, undef, undef, undef, undef, undef, undef, undef, undef, undef, undef, undef, undef, undef, undef, undef, undef, undef, undef, undef, undef, undef, undef, undef, undef, undef, undef, undef, undef, undef, undef, undef, undef, undef, undef, undef, undef, undef, undef, undef, undef, undef, undef, undef, undef, undef, undef, undef, undef, undef, undef, undef, undef, undef, undef, undef, undef, undef, undef, undef, undef, undef, undef, undef, undef, undef, undef, undef, undef, undef, undef, undef], []⟩ [.code (body_add L)]) (b₀.at a₀ (.inRegion ops₀ (i₀ :: rest₀) :: k₀) :: cs)) w := by
  lib_facts
  refine gm_last (n := 12) ?_
  simp only [body_add, addFn, Option.getD_some]
  u_c stepG_seq (flR hF1) hK
  u_cond true (flR hF1) hK
  u_c stepG_seq (flR hF1) hK
  u_c stepG_seq (flR hF1) hK
  u_reg (flR hF1) hK
  u_op (flR hF1) hK
  u_op (flR hF1) hK
  u_c stepG_region_end (flR hF1) hK
  u_cond false (flR hF1) hK
  u_c stepG_skip (flR hF1) hK
  u_c stepG_seq (flR hF1) hK
  u_reg (flR hF1) hK
  refine Goes.stop (fun w₁ h₁ => ?_)
  replace hK := flR hF1 hK h₁
  clear h₁
  refine ⟨rfl, _, stepG_mark0 .disable (by simp) rfl rfl (by k_ne) rfl H.f_disable (x_disable_n L) (x_disable_b L) (x_disable_x L) (x_disable_f L), gm_last (n := 40) ?_⟩
  walk_nrm
  u_c stepG_region_end (flR hF1) hK
  u_reg (flR hF1) hK
  u_defer (flR hF1) hK
  u_c stepG_region_end (flR hF1) hK
  u_c stepG_seq (flR hF1) hK
  u_reg (flR hF1) hK
  u_op (flR hF1) hK
  u_c stepG_region_end (flR hF1) hK
  u_c stepG_seq (flR hF1) hK
  u_c stepG_seq (flR hF1) hK
  u_reg (flR hF1) hK
  u_bub (flR hF1) hK
  u_c stepG_region_end (flR hF1) hK
  u_cond false (flR hF1) hK
  u_c stepG_skip (flR hF1) hK
  u_c stepG_seq (flR hF1) hK
  u_reg (flR hF1) hK
  u_op (flR hF1) hK
  u_op (flR hF1) hK
  u_op (flR hF1) hK
  u_op (flR hF1) hK
  u_op (flR hF1) hK
  u_op (flR hF1) hK
  u_call H.f_uAdd (nm_uAdd L) uAddFn (flR hF1) hK
  u_c stepG_seq (flR hF1) hK
  u_reg (flR hF1) hK
  u_op (flR hF1) hK
  u_c stepG_region_end (flR hF1) hK
  u_c stepG_seq (flR hF1) hK
  u_reg (flR hF1) hK
  u_op (flR hF1) hK
  u_op (flR hF1) hK
  u_op (flR hF1) hK
  u_op (flR hF1) hK
  refine Goes.stop (fun w₂ h₂ => ?_)
  replace hK := flR hF1 hK h₂
  clear h₂
  refine ⟨rfl, fun v hv hw => ?_⟩
  rcases Nat.eq_zero_or_pos v with rfl | hvp
  · replace hw : WgAt L.tWg Wg w₂ 0 0 := by simpa using hw
    have z : (((0 : Nat) : Int) + 1) * KK = KK := by simp
    rw [z]
    have e0 : IntKind.u64.wrap (0 + 4294967296) = KK := by decide
    refine ⟨_, (stepG_add_atomic rfl rfl (by k_ne) rfl H.f_addU64 (x_addU64_n L) (x_addU64_b L) (x_addU64_x L) .u64 (x_addU64_f L) rfl rfl hw.cellSt (hw.thaw 0)).trans (by rw [e0]; rfl), gm_seg (n := 110) ?_⟩
    replace hK : F (w₂.setCell (stA Wg) (.int .u64 KK)) ∧ WgLive L.tWg Wg (w₂.setCell (stA Wg) (.int .u64 KK)) := ⟨hF2 _ _ (aside_setCell w₂ (stA Wg) _) hK.1, ⟨_, _, hw.setSt _⟩⟩
    clear hw
    simp only [KK] at hK ⊢
    walk_nrm
    u_op (flR hF1) hK
    u_c stepG_region_end (flR hF1) hK
    u_c stepG_ret' (flR hF1) hK
    u_leave1 H.f_uAdd (flR hF1) hK
    u_op (flR hF1) hK
    u_c stepG_region_end (flR hF1) hK
    u_c stepG_seq (flR hF1) hK
    u_c stepG_seq (flR hF1) hK
    u_reg (flR hF1) hK
    u_op (flR hF1) hK
    u_op (flR hF1) hK
    u_op (flR hF1) hK
    u_op (flR hF1) hK
    u_skip (flR hF1) hK
    u_skip (flR hF1) hK
    u_op (flR hF1) hK
    u_c stepG_region_end (flR hF1) hK
    u_cond false (flR hF1) hK
    u_c stepG_skip (flR hF1) hK
    u_c stepG_seq (flR hF1) hK
    u_reg (flR hF1) hK
    u_op (flR hF1) hK
    u_op (flR hF1) hK
    u_op (flR hF1) hK
    u_op (flR hF1) hK
    u_c stepG_region_end (flR hF1) hK
    u_c stepG_seq (flR hF1) hK
    u_reg (flR hF1) hK
    u_op (flR hF1) hK
    u_op (flR hF1) hK
    u_op (flR hF1) hK
    u_op (flR hF1) hK
    u_c stepG_region_end (flR hF1) hK
    u_c stepG_seq (flR hF1) hK
    u_c stepG_seq (flR hF1) hK
    u_reg (flR hF1) hK
    u_op (flR hF1) hK
    u_op (flR hF1) hK
    u_op (flR hF1) hK
    u_op (flR hF1) hK
    u_op (flR hF1) hK
    u_op (flR hF1) hK
    u_op (flR hF1) hK
    u_op (flR hF1) hK
    u_op (flR hF1) hK
    u_op (flR hF1) hK
    u_c stepG_region_end (flR hF1) hK
    u_cond true (flR hF1) hK
    u_reg (flR hF1) hK
    u_op (flR hF1) hK
    u_op (flR hF1) hK
    u_op (flR hF1) hK
    u_conv H.underlying_tPU32 H.room_tU32 (WgLive.cell1 hK.2).choose_spec (flR hF1) hK
    refine Goes.stop (fun w₃ h₃ => ?_)
    replace hK := flR hF1 hK h₃
    clear h₃
    refine gm_said (e := mk (.read (smA Wg))) rfl (fun w₄ _ => stepG_markAt .read (by simp) rfl rfl (by k_ne) rfl H.f_raceRead (x_raceRead_n L) (x_raceRead_b L) (x_raceRead_x L) (x_raceRead_f L) (ad := ⟨Wg, 1, none⟩) (by simp [Act.eval])) (.inl rfl) (fun w₄ h₄ => ?_)
    replace hK := flR hF1 hK h₄
    clear h₄
    refine gm_last (n := 90) ?_
    walk_nrm
    u_c stepG_region_end (flR hF1) hK
    u_c stepG_seq (flR hF1) hK
    u_c stepG_seq (flR hF1) hK
    u_reg (flR hF1) hK
    u_op (flR hF1) hK
    u_op (flR hF1) hK
    u_c stepG_region_end (flR hF1) hK
    u_cond false (flR hF1) hK
    u_c stepG_skip (flR hF1) hK
    u_c stepG_seq (flR hF1) hK
    u_c stepG_seq (flR hF1) hK
    u_reg (flR hF1) hK
    u_op (flR hF1) hK
    u_op (flR hF1) hK
    u_op (flR hF1) hK
    u_skip (flR hF1) hK
    u_skip (flR hF1) hK
    u_op (flR hF1) hK
    u_op (flR hF1) hK
    u_skip (flR hF1) hK
    u_skip (flR hF1) hK
    u_skip (flR hF1) hK
    u_skip (flR hF1) hK
    u_op (flR hF1) hK
    u_c stepG_region_end (flR hF1) hK
    u_cond false (flR hF1) hK
    u_c stepG_skip (flR hF1) hK
    u_c stepG_seq (flR hF1) hK
    u_c stepG_seq (flR hF1) hK
    u_reg (flR hF1) hK
    u_op (flR hF1) hK
    u_op (flR hF1) hK
    u_op (flR hF1) hK
    u_skip (flR hF1) hK
    u_skip (flR hF1) hK
    u_op (flR hF1) hK
    u_c stepG_region_end (flR hF1) hK
    u_cond true (flR hF1) hK
    u_c stepG_ret' (flR hF1) hK
    refine Goes.stop (fun w₃ h₃ => ?_)
    replace hK := flR hF1 hK h₃
    clear h₃
    refine ⟨rfl, _, stepG_unwind_entry (v := .tuple #[]) (evs := #[mk .enable]) rfl H.f_enable (x_enable_n L) (x_enable_b L) (x_enable_x L) (x_enable_f L) (by simp [Extern.Race.none_]) (by simp [mk]) (by simp [mk]), gm_seg (n := 1) ?_⟩
    u_leave0 H.f_add (flR hF1) hK
    exact Goes.stop (fun w₄ h₄ => hT _ (flR hF1 hK h₄).1 (flR hF1 hK h₄).2)
  · obtain ⟨V, hV⟩ : ∃ V : Int, V = (v : Int) + 1 := ⟨_, rfl⟩
    obtain ⟨X, hX⟩ : ∃ X : Int, X = V * KK := ⟨_, rfl⟩
    have eX : IntKind.u64.wrap ((v : Int) * KK + 4294967296) = X := by rw [IntKind.wrap_u64, hX, hV]; simp only [KK]; omega
    rw [← hV, ← hX]
    have a1 : X / 4294967296 = V := by rw [hX]; simp only [KK]; omega
    have b1 : bits .and .u64 X 2147483648 = 0 := by rw [hX, hV]; have := st_flag (v + 1) 0 (by omega) (by omega); simpa [KK] using this
    have b2 : bits .and .u64 X 2147483647 = 0 := by rw [hX, hV]; have := st_waiters (v + 1) 0 (by omega) (by omega); simpa [KK] using this
    have c1 : IntKind.i32.wrap V = V := by rw [IntKind.wrap_i32]; omega
    have hV1 : 1 < V := by omega
    have hV2 : V < 2147483648 := by omega
    have q1 : (V == 1) = false := by simp; omega
    have q2 : decide (V = 1) = false := decide_eq_false (by omega)
    have q3 : decide (V < 0) = false := decide_eq_false (by omega)
    have q4 : decide (0 < V) = true := decide_eq_true (by omega)
    have q5 : (V == 0) = false := by simp; omega
    have q6 : decide (V = 0) = false := decide_eq_false (by omega)
    refine ⟨_, (stepG_add_atomic rfl rfl (by k_ne) rfl H.f_addU64 (x_addU64_n L) (x_addU64_b L) (x_addU64_x L) .u64 (x_addU64_f L) rfl rfl hw.cellSt (hw.thaw 0)).trans (by rw [eX]; rfl), gm_last (n := 110) ?_⟩
    replace hK : F (w₂.setCell (stA Wg) (.int .u64 X)) ∧ WgLive L.tWg Wg (w₂.setCell (stA Wg) (.int .u64 X)) := ⟨hF2 _ _ (aside_setCell w₂ (stA Wg) _) hK.1, ⟨_, _, hw.setSt _⟩⟩
    clear hw hX hV eX
    walk_nrm
    u_op (flR hF1) hK
    u_c stepG_region_end (flR hF1) hK
    u_c stepG_ret' (flR hF1) hK
    u_leave1 H.f_uAdd (flR hF1) hK
    u_op (flR hF1) hK
    u_c stepG_region_end (flR hF1) hK
    u_c stepG_seq (flR hF1) hK
    u_c stepG_seq (flR hF1) hK
    u_reg (flR hF1) hK
    u_op (flR hF1) hK
    u_op (flR hF1) hK
    u_op (flR hF1) hK
    u_op (flR hF1) hK
    u_skip (flR hF1) hK
    u_skip (flR hF1) hK
    u_op (flR hF1) hK
    u_c stepG_region_end (flR hF1) hK
    u_cnd false (flR hF1) hK
    u_c stepG_skip (flR hF1) hK
    u_c stepG_seq (flR hF1) hK
    u_reg (flR hF1) hK
    u_op (flR hF1) hK
    u_op (flR hF1) hK
    u_op (flR hF1) hK
    u_op (flR hF1) hK
    u_c stepG_region_end (flR hF1) hK
    u_c stepG_seq (flR hF1) hK
    u_reg (flR hF1) hK
    u_op (flR hF1) hK
    u_op (flR hF1) hK
    u_op (flR hF1) hK
    u_op (flR hF1) hK
    u_c stepG_region_end (flR hF1) hK
    u_c stepG_seq (flR hF1) hK
    u_c stepG_seq (flR hF1) hK
    u_reg (flR hF1) hK
    u_op (flR hF1) hK
    u_op (flR hF1) hK
    u_op (flR hF1) hK
    u_op (flR hF1) hK
    u_op (flR hF1) hK
    u_op (flR hF1) hK
    u_op (flR hF1) hK
    u_op (flR hF1) hK
    u_op (flR hF1) hK
    u_op (flR hF1) hK
    u_c stepG_region_end (flR hF1) hK
    u_cnd false (flR hF1) hK
    u_c stepG_skip (flR hF1) hK
    u_c stepG_seq (flR hF1) hK
    u_c stepG_seq (flR hF1) hK
    u_reg (flR hF1) hK
    u_op (flR hF1) hK
    u_op (flR hF1) hK
    u_c stepG_region_end (flR hF1) hK
    u_cnd false (flR hF1) hK
    u_c stepG_skip (flR hF1) hK
    u_c stepG_seq (flR hF1) hK
    u_c stepG_seq (flR hF1) hK
    u_reg (flR hF1) hK
    u_op (flR hF1) hK
    u_op (flR hF1) hK
    u_op (flR hF1) hK
    u_skip (flR hF1) hK
    u_skip (flR hF1) hK
    u_op (flR hF1) hK
    u_op (flR hF1) hK
    u_skip (flR hF1) hK
    u_skip (flR hF1) hK
    u_skip (flR hF1) hK
    u_skip (flR hF1) hK
    u_op (flR hF1) hK
    u_c stepG_region_end (flR hF1) hK
    u_cnd false (flR hF1) hK
    u_c stepG_skip (flR hF1) hK
    u_c stepG_seq (flR hF1) hK
    u_c stepG_seq (flR hF1) hK
    u_reg (flR hF1) hK
    u_op (flR hF1) hK
    u_op (flR hF1) hK
    u_op (flR hF1) hK
    u_skip (flR hF1) hK
    u_skip (flR hF1) hK
    u_op (flR hF1) hK
    u_c stepG_region_end (flR hF1) hK
    u_cnd true (flR hF1) hK
    u_c stepG_ret' (flR hF1) hK
    refine Goes.stop (fun w₃ h₃ => ?_)
    replace hK := flR hF1 hK h₃
    clear h₃
    refine ⟨rfl, _, stepG_unwind_entry (v := .tuple #[]) (evs := #[mk .enable]) rfl H.f_enable (x_enable_n L) (x_enable_b L) (x_enable_x L) (x_enable_f L) (by simp [Extern.Race.none_]) (by simp [mk]) (by simp [mk]), gm_seg (n := 1) ?_⟩
    u_leave0 H.f_add (flR hF1) hK
    exact Goes.stop (fun w₄ h₄ => hT _ (flR hF1 hK h₄).1 (flR hF1 hK h₄).2)
end
end Go.Proofs.Ytmmolicodlmlkaa.Ph
namespace Go.Proofs.Ytmmolicodlmlkaa.Ph
open Go.Conc Go.ConcN Go.RowKit Go.Conc.Lib Go.ConcR.Gen Go.ConcN.Gen
open Go.ConcR (KK wgBlock WgAt stA smA rd wr mk DC0 Payload)
open Go.Proofs.Ytmmolicodlmlkaa.Rel (RS DS EvS Tr Sub GoT Go1)
set_option linter.unusedVariables false
set_option linter.unusedSimpArgs false

/-- Behind the acquire: whatever the world, it comes to this frame. -/
def AfterW (P : Program) (c : Frame) (cs : List Frame) (g : Goroutine) : Prop := ∃ m, ∀ w, Goes P true (fun _ _ => True) DC0 (fun g' _ => g' = G c cs) m g w
section
variable {L : WgLink} {P : Program} {Wg C : Nat} {Rm S : Nat → Prop} {F : World → Prop} {Nx : (Nat → Prop) → Goroutine → World → Prop} {Anch : (Nat → Prop) → Goroutine → World → Prop}
  {b₀ : Frame} {a₀ : Act} {ops₀ : Array Oper} {i₀ : Nat} {rest₀ : List Nat} {k₀ : List Item} {cs : List Frame}
set_option maxRecDepth 100000 in
/-- To the loop's head. -/
theorem waitStart (H : WgLib P L) (hF1 : ∀ a b, RM L.tWg Wg C Rm S a b → F a → F b) (hAnch : ∀ g w, AnchWN L F Wg (b₀.at a₀ (.inRegion ops₀ (i₀ :: rest₀) :: k₀)) cs g w → Anch S g w) (w : World) (hK : F w ∧ WgLive L.tWg Wg w) :
    GM P L.tWg Wg C Rm (MKd P L.tWg Wg C Rm Anch) S (G ((base L.wait).at ⟨#[.pointer (some ⟨Wg, 0, none⟩), undef, undef, undef, undef, undef, undef, undef, undef, undef, undef, undef, undef, undef, undef, undef, undef, undef, undef, undef, undef, undef, undef, undef, undef, undef, undef, undef, undef, undef, undef, undef, undef, undef, undef, undef, undef, undef, undef, undef, undef, undef, undef, undef, undef, undef, undef, undef, undef, undef, undef, undef, undef, undef, undef, undef, undef, undef, undef, undef, undef, undef, undef, undef, undef, undef, undef, undef, undef, undef, undef, undef, undef, undef, undef, undef, undef, undef, undef, undef, undef, undef, undef, undef], []⟩ [.code (body_wait L)]) (b₀.at a₀ (.inRegion ops₀ (i₀ :: rest₀) :: k₀) :: cs)) w := by
  lib_facts
  refine gm_last (n := 3) ?_
  simp only [body_wait, waitFn, Option.getD_some]
  u_c stepG_seq (flR hF1) hK
  u_cond true (flR hF1) hK
  u_reg (flR hF1) hK
  refine Goes.stop (fun w₁ h₁ => ?_)
  replace hK := flR hF1 hK h₁
  clear h₁
  refine ⟨rfl, _, stepG_mark0 .disable (by simp) rfl rfl (by k_ne) rfl H.f_disable (x_disable_n L) (x_disable_b L) (x_disable_x L) (x_disable_f L), gm_last (n := 3) ?_⟩
  walk_nrm
  u_c stepG_region_end (flR hF1) hK
  u_c stepG_block (flR hF1) hK
  u_c stepG_loop (flR hF1) hK
  exact Goes.stop (fun w₂ h₂ => hAnch _ _ ⟨_, rfl, by simp, by simp, flR hF1 hK h₂⟩)
set_option maxRecDepth 100000 in
set_option maxHeartbeats 8000000 in
/-- From the loop's head. -/
theorem waitRound (H : WgLib P L) (hF1 : ∀ a b, RM L.tWg Wg C Rm S a b → F a → F b) (hF2 : ∀ a b, Aside Wg a b → F a → F b) (hAnch : ∀ g w, AnchWN L F Wg (b₀.at a₀ (.inRegion ops₀ (i₀ :: rest₀) :: k₀)) cs g w → Anch S g w)
    (hT : ∀ g w, AfterW P (b₀.at (a₀.put ((ops₀[i₀]?).bind (·.dst)) (.tuple #[])) (.inRegion ops₀ rest₀ :: k₀)) cs g → F w → WgLive L.tWg Wg w → Nx S g w) (g : Goroutine) (w : World) (h : AnchWN L F Wg (b₀.at a₀ (.inRegion ops₀ (i₀ :: rest₀) :: k₀)) cs g w) :
    GM P L.tWg Wg C Rm (MW1 P L.tWg Wg C Rm Nx Anch) S g w := by
  lib_facts
  obtain ⟨T, rfl, hT84, t0, hK⟩ := h
  obtain ⟨v0, v1, v2, v3, v4, v5, v6, v7, v8, v9, v10, v11, v12, v13, v14, v15, v16, v17, v18, v19, v20, v21, v22, v23, v24, v25, v26, v27, v28, v29, v30, v31, v32, v33, v34, v35, v36, v37, v38, v39, v40, v41, v42, v43, v44, v45, v46, v47, v48, v49, v50, v51, v52, v53, v54, v55, v56, v57, v58, v59, v60, v61, v62, v63, v64, v65, v66, v67, v68, v69, v70, v71, v72, v73, v74, v75, v76, v77, v78, v79, v80, v81, v82, v83, rfl⟩ := array84 T hT84
  simp only [List.getElem?_toArray, List.getElem?_cons_zero, Option.some.injEq] at t0
  subst t0
  refine gm_last (n := 30) ?_
  simp only [L7, body_wait, waitFn, Option.getD_some]
  u_c stepG_block (flR hF1) hK
  u_c stepG_seq (flR hF1) hK
  u_reg (flR hF1) hK
  u_op (flR hF1) hK
  u_op (flR hF1) hK
  u_op (flR hF1) hK
  u_call H.f_uLoad (nm_uLoad L) uLoadFn (flR hF1) hK
  u_c stepG_seq (flR hF1) hK
  u_reg (flR hF1) hK
  u_op (flR hF1) hK
  u_c stepG_region_end (flR hF1) hK
  u_c stepG_seq (flR hF1) hK
  u_reg (flR hF1) hK
  u_op (flR hF1) hK
  u_op (flR hF1) hK
  u_op (flR hF1) hK
  refine Goes.stop (fun w₁ h₁ => ?_)
  replace hK := flR hF1 hK h₁
  clear h₁
  refine ⟨rfl, fun v hv hw => ?_⟩
  rcases Nat.eq_zero_or_pos v with rfl | hvp
  · replace hw : WgAt L.tWg Wg w₁ 0 0 := by simpa using hw
    refine ⟨_, stepG_load_atomic (v := 0) rfl rfl (by k_ne) rfl H.f_loadU64 (x_loadU64_n L) (x_loadU64_b L) (x_loadU64_x L) .u64 (x_loadU64_f L) rfl hw.cellSt, fun _ => gm_last (n := 50) ?_, fun h => absurd rfl h⟩
    clear hw
    walk_nrm
    u_op (flR hF1) hK
    u_c stepG_region_end (flR hF1) hK
    u_c stepG_ret' (flR hF1) hK
    u_leave1 H.f_uLoad (flR hF1) hK
    u_op (flR hF1) hK
    u_c stepG_region_end (flR hF1) hK
    u_c stepG_seq (flR hF1) hK
    u_reg (flR hF1) hK
    u_op (flR hF1) hK
    u_op (flR hF1) hK
    u_op (flR hF1) hK
    u_op (flR hF1) hK
    u_c stepG_region_end (flR hF1) hK
    u_c stepG_seq (flR hF1) hK
    u_reg (flR hF1) hK
    u_op (flR hF1) hK
    u_op (flR hF1) hK
    u_op (flR hF1) hK
    u_op (flR hF1) hK
    u_c stepG_region_end (flR hF1) hK
    u_c stepG_seq (flR hF1) hK
    u_c stepG_seq (flR hF1) hK
    u_reg (flR hF1) hK
    u_op (flR hF1) hK
    u_op (flR hF1) hK
    u_c stepG_region_end (flR hF1) hK
    u_cond true (flR hF1) hK
    u_c stepG_seq (flR hF1) hK
    u_cond true (flR hF1) hK
    u_c stepG_seq (flR hF1) hK
    u_reg (flR hF1) hK
    refine Goes.stop (fun w₅ h₅ => ?_)
    replace hK := flR hF1 hK h₅
    clear h₅
    refine ⟨rfl, _, stepG_mark0 .enable (by simp) rfl rfl (by k_ne) rfl H.f_enable (x_enable_n L) (x_enable_b L) (x_enable_x L) (x_enable_f L), gm_last (n := 12) ?_⟩
    walk_nrm
    u_c stepG_region_end (flR hF1) hK
    u_reg (flR hF1) hK
    u_op (flR hF1) hK
    u_conv H.underlying_tWgP H.room_tWg (WgLive.cell0 hK.2).choose_spec (flR hF1) hK
    refine Goes.stop (fun w₆ h₆ => ?_)
    replace hK := flR hF1 hK h₆
    clear h₆
    refine ⟨rfl, _, stepG_markAt .acquire (by simp) rfl rfl (by k_ne) rfl H.f_acquire (x_acquire_n L) (x_acquire_b L) (x_acquire_x L) (x_acquire_f L) (by simp [Act.eval, stA]), hT _ _ ⟨30, fun w => ?_⟩ hK.1 hK.2⟩
    have tr := trivial
    walk_nrm
    u_c stepG_region_end (fun h _ => h) tr
    u_c stepG_seq (fun h _ => h) tr
    u_c stepG_seq (fun h _ => h) tr
    u_reg (fun h _ => h) tr
    u_op (fun h _ => h) tr
    u_op (fun h _ => h) tr
    u_op (fun h _ => h) tr
    u_op (fun h _ => h) tr
    u_op (fun h _ => h) tr
    u_op (fun h _ => h) tr
    u_op (fun h _ => h) tr
    u_op (fun h _ => h) tr
    u_skip (fun h _ => h) tr
    u_skip (fun h _ => h) tr
    u_op (fun h _ => h) tr
    u_c stepG_region_end (fun h _ => h) tr
    u_cond false (fun h _ => h) tr
    u_c stepG_skip (fun h _ => h) tr
    u_c stepG_ret' (fun h _ => h) tr
    u_leave0 H.f_wait (fun h _ => h) tr
    exact Goes.stop (fun w₁ _ => rfl)
  · obtain ⟨X, hX⟩ : ∃ X : Int, (v : Int) * KK = X := ⟨_, rfl⟩
    have a1 : X / 4294967296 = (v : Int) := by rw [← hX]; simp only [KK]; omega
    have b1 : bits .and .u64 X 2147483648 = 0 := by rw [← hX]; have := st_flag v 0 (by omega) (by omega); simpa [KK] using this
    have b2 : bits .and .u64 X 2147483647 = 0 := by rw [← hX]; have := st_waiters v 0 (by omega) (by omega); simpa [KK] using this
    have c1 : IntKind.i32.wrap (v : Int) = (v : Int) := by rw [IntKind.wrap_i32]; omega
    have w1 : IntKind.u64.wrap (X + 1) = X + 1 := by rw [IntKind.wrap_u64, ← hX]; simp only [KK]; omega
    have q3 : decide ((v : Int) < 0) = false := decide_eq_false (by omega)
    have q4 : decide (0 < (v : Int)) = true := decide_eq_true (by omega)
    have q5 : ((v : Int) == 0) = false := by simp; omega
    have q6 : decide ((v : Int) = 0) = false := decide_eq_false (by omega)
    rw [hX] at hw
    refine ⟨_, stepG_load_atomic (v := X) rfl rfl (by k_ne) rfl H.f_loadU64 (x_loadU64_n L) (x_loadU64_b L) (x_loadU64_x L) .u64 (x_loadU64_f L) rfl hw.cellSt, fun h0 => absurd h0 (by omega), fun _ => gm_last (n := 60) ?_⟩
    clear hw
    walk_nrm
    u_op (flR hF1) hK
    u_c stepG_region_end (flR hF1) hK
    u_c stepG_ret' (flR hF1) hK
    u_leave1 H.f_uLoad (flR hF1) hK
    u_op (flR hF1) hK
    u_c stepG_region_end (flR hF1) hK
    u_c stepG_seq (flR hF1) hK
    u_reg (flR hF1) hK
    u_op (flR hF1) hK
    u_op (flR hF1) hK
    u_op (flR hF1) hK
    u_op (flR hF1) hK
    u_c stepG_region_end (flR hF1) hK
    u_c stepG_seq (flR hF1) hK
    u_reg (flR hF1) hK
    u_op (flR hF1) hK
    u_op (flR hF1) hK
    u_op (flR hF1) hK
    u_op (flR hF1) hK
    u_c stepG_region_end (flR hF1) hK
    u_c stepG_seq (flR hF1) hK
    u_c stepG_seq (flR hF1) hK
    u_reg (flR hF1) hK
    u_op (flR hF1) hK
    u_op (flR hF1) hK
    u_c stepG_region_end (flR hF1) hK
    u_cnd false (flR hF1) hK
    u_c stepG_skip (flR hF1) hK
    u_c stepG_seq (flR hF1) hK
    u_reg (flR hF1) hK
    u_op (flR hF1) hK
    u_op (flR hF1) hK
    u_op (flR hF1) hK
    u_op (flR hF1) hK
    u_op (flR hF1) hK
    u_op (flR hF1) hK
    u_call H.f_uCas (nm_uCas L) uCasFn (flR hF1) hK
    u_c stepG_seq (flR hF1) hK
    u_reg (flR hF1) hK
    u_op (flR hF1) hK
    u_c stepG_region_end (flR hF1) hK
    u_c stepG_seq (flR hF1) hK
    u_reg (flR hF1) hK
    u_op (flR hF1) hK
    u_op (flR hF1) hK
    u_op (flR hF1) hK
    u_op (flR hF1) hK
    u_op (flR hF1) hK
    refine Goes.stop (fun w₂ h₂ => ?_)
    replace hK := flR hF1 hK h₂
    clear h₂
    refine ⟨rfl, fun v' hv' hw => ⟨fun e => ?_, fun e => ?_⟩⟩
    · subst e
      rw [hX] at hw ⊢
      refine ⟨_, (stepG_cas_hit (v := X) (n := X + 1) rfl rfl (by k_ne) rfl H.f_casU64 (x_casU64_n L) (x_casU64_b L) (x_casU64_x L) .u64 (x_casU64_f L) rfl rfl rfl hw.cellSt (hw.thaw 0)).trans (by rfl), gm_seg (n := 70) ?_⟩
      replace hK : F (w₂.setCell (stA Wg) (.int .u64 (X + 1))) ∧ WgLive L.tWg Wg (w₂.setCell (stA Wg) (.int .u64 (X + 1))) := ⟨hF2 _ _ (aside_setCell w₂ (stA Wg) _) hK.1, ⟨_, _, hw.setSt _⟩⟩
      clear hw
      walk_nrm
      u_op (flR hF1) hK
      u_c stepG_region_end (flR hF1) hK
      u_c stepG_ret' (flR hF1) hK
      u_leave1 H.f_uCas (flR hF1) hK
      u_c stepG_region_end (flR hF1) hK
      u_cond true (flR hF1) hK
      u_c stepG_seq (flR hF1) hK
      u_c stepG_seq (flR hF1) hK
      u_reg (flR hF1) hK
      u_op (flR hF1) hK
      u_op (flR hF1) hK
      u_op (flR hF1) hK
      u_op (flR hF1) hK
      u_c stepG_region_end (flR hF1) hK
      u_cond true (flR hF1) hK
      u_reg (flR hF1) hK
      u_op (flR hF1) hK
      u_op (flR hF1) hK
      u_op (flR hF1) hK
      u_conv H.underlying_tPU32 H.room_tU32 (WgLive.cell1 hK.2).choose_spec (flR hF1) hK
      refine Goes.stop (fun w₃ h₃ => ?_)
      replace hK := flR hF1 hK h₃
      clear h₃
      refine gm_said (e := mk (.write (smA Wg))) rfl (fun w₄ _ => stepG_markAt .write (by simp) rfl rfl (by k_ne) rfl H.f_raceWrite (x_raceWrite_n L) (x_raceWrite_b L) (x_raceWrite_x L) (x_raceWrite_f L) (ad := ⟨Wg, 1, none⟩) (by simp [Act.eval])) (.inr rfl) (fun w₄ h₄ => ?_)
      replace hK := flR hF1 hK h₄
      clear h₄
      refine gm_last (n := 60) ?_
      walk_nrm
      u_c stepG_region_end (flR hF1) hK
      u_c stepG_seq (flR hF1) hK
      u_reg (flR hF1) hK
      u_op (flR hF1) hK
      u_c stepG_region_end (flR hF1) hK
      u_c stepG_seq (flR hF1) hK
      u_c stepG_seq (flR hF1) hK
      u_reg (flR hF1) hK
      u_op (flR hF1) hK
      u_op (flR hF1) hK
      u_op (flR hF1) hK
      u_op (flR hF1) hK
      u_skip (flR hF1) hK
      u_op (flR hF1) hK
      u_c stepG_region_end (flR hF1) hK
      u_cond false (flR hF1) hK
      u_c stepG_skip (flR hF1) hK
      u_c stepG_seq (flR hF1) hK
      u_reg (flR hF1) hK
      u_op (flR hF1) hK
      u_op (flR hF1) hK
      u_op (flR hF1) hK
      u_op (flR hF1) hK
      refine Goes.stop (fun w₃ h₃ w₄ h₄ => ?_)
      replace hK := flR hF1 (flR hF1 hK h₃) h₄
      clear h₃ h₄
      refine ⟨rfl, rfl, fun ⟨st, hw⟩ => stepG_semacquire_wait rfl rfl rfl H.f_semacquire (x_semacquire_n L) (x_semacquire_b L) (x_semacquire_x L) (x_semacquire_f L) (by simp [Act.eval, smA]) hw.cellSm, fun hf => ?_⟩
      refine ⟨_, (stepG_semacquire (n := 1) rfl rfl (by k_ne) rfl H.f_semacquire (x_semacquire_n L) (x_semacquire_b L) (x_semacquire_x L) (x_semacquire_f L) (by simp [Act.eval, smA]) hf.cellSm (by k_ne) (hf.thaw 1)).trans (by rfl), gm_last (n := 30) ?_⟩
      replace hK : F (w₄.setCell (smA Wg) (.int .u32 0)) ∧ WgLive L.tWg Wg (w₄.setCell (smA Wg) (.int .u32 0)) := ⟨hF2 _ _ (aside_setCell w₄ (smA Wg) _) hK.1, ⟨_, _, hf.setSm 0⟩⟩
      clear hf
      walk_nrm
      u_c stepG_region_end (flR hF1) hK
      u_c stepG_seq (flR hF1) hK
      u_reg (flR hF1) hK
      u_op (flR hF1) hK
      u_op (flR hF1) hK
      u_op (flR hF1) hK
      u_call H.f_uLoad (nm_uLoad L) uLoadFn (flR hF1) hK
      u_c stepG_seq (flR hF1) hK
      u_reg (flR hF1) hK
      u_op (flR hF1) hK
      u_c stepG_region_end (flR hF1) hK
      u_c stepG_seq (flR hF1) hK
      u_reg (flR hF1) hK
      u_op (flR hF1) hK
      u_op (flR hF1) hK
      u_op (flR hF1) hK
      refine Goes.stop (fun w₅ h₅ => ?_)
      replace hK := flR hF1 hK h₅
      clear h₅
      refine ⟨rfl, fun hw => ⟨_, stepG_load_atomic (v := 0) rfl rfl (by k_ne) rfl H.f_loadU64 (x_loadU64_n L) (x_loadU64_b L) (x_loadU64_x L) .u64 (x_loadU64_f L) rfl hw.cellSt, gm_last (n := 30) ?_⟩⟩
      clear hw
      walk_nrm
      u_op (flR hF1) hK
      u_c stepG_region_end (flR hF1) hK
      u_c stepG_ret' (flR hF1) hK
      u_leave1 H.f_uLoad (flR hF1) hK
      u_op (flR hF1) hK
      u_op (flR hF1) hK
      u_c stepG_region_end (flR hF1) hK
      u_c stepG_seq (flR hF1) hK
      u_cond true (flR hF1) hK
      u_c stepG_seq (flR hF1) hK
      u_reg (flR hF1) hK
      refine Goes.stop (fun w₅ h₅ => ?_)
      replace hK := flR hF1 hK h₅
      clear h₅
      refine ⟨rfl, _, stepG_mark0 .enable (by simp) rfl rfl (by k_ne) rfl H.f_enable (x_enable_n L) (x_enable_b L) (x_enable_x L) (x_enable_f L), gm_last (n := 12) ?_⟩
      walk_nrm
      u_c stepG_region_end (flR hF1) hK
      u_reg (flR hF1) hK
      u_op (flR hF1) hK
      u_conv H.underlying_tWgP H.room_tWg (WgLive.cell0 hK.2).choose_spec (flR hF1) hK
      refine Goes.stop (fun w₆ h₆ => ?_)
      replace hK := flR hF1 hK h₆
      clear h₆
      refine ⟨rfl, _, stepG_markAt .acquire (by simp) rfl rfl (by k_ne) rfl H.f_acquire (x_acquire_n L) (x_acquire_b L) (x_acquire_x L) (x_acquire_f L) (by simp [Act.eval, stA]), hT _ _ ⟨30, fun w => ?_⟩ hK.1 hK.2⟩
      have tr := trivial
      walk_nrm
      u_c stepG_region_end (fun h _ => h) tr
      u_c stepG_seq (fun h _ => h) tr
      u_c stepG_seq (fun h _ => h) tr
      u_reg (fun h _ => h) tr
      u_op (fun h _ => h) tr
      u_c stepG_region_end (fun h _ => h) tr
      u_cond false (fun h _ => h) tr
      u_c stepG_skip (fun h _ => h) tr
      u_c stepG_ret' (fun h _ => h) tr
      u_leave0 H.f_wait (fun h _ => h) tr
      exact Goes.stop (fun w₁ _ => rfl)
    · refine ⟨_, stepG_cas_miss (v := (v' : Int) * KK) (old := X) (n := X + 1) rfl rfl (by k_ne) rfl H.f_casU64 (x_casU64_n L) (x_casU64_b L) (x_casU64_x L) .u64 (x_casU64_f L) rfl rfl rfl hw.cellSt (hw.thaw 0) (by rw [← hX]; simp only [KK]; omega), gm_last (n := 20) ?_⟩
      clear hw
      walk_nrm
      u_op (flR hF1) hK
      u_c stepG_region_end (flR hF1) hK
      u_c stepG_ret' (flR hF1) hK
      u_leave1 H.f_uCas (flR hF1) hK
      u_c stepG_region_end (flR hF1) hK
      u_cond false (flR hF1) hK
      u_c stepG_skip (flR hF1) hK
      u_c stepG_inBlock (flR hF1) hK
      u_c stepG_inLoop (flR hF1) hK
      exact Goes.stop (fun w₃ h₃ => hAnch _ _ ⟨_, rfl, by simp, by simp, flR hF1 hK h₃⟩)
end
end Go.Proofs.Ytmmolicodlmlkaa.Ph
namespace Go.Proofs.Ytmmolicodlmlkaa.Ph
open Go.Conc Go.ConcN Go.RowKit Go.Conc.Lib Go.ConcR.Gen Go.ConcN.Gen
open Go.ConcR (KK wgBlock WgAt stA smA rd wr mk DC0 Payload)
open Go.Proofs.Ytmmolicodlmlkaa.Rel (RS DS EvS Tr Sub GoT Go1)
set_option linter.unusedVariables false
set_option linter.unusedSimpArgs false

section
variable {P : Program} {main : Bool} {R : (Nat → Prop) → World → World → Prop} {D : (Nat → Prop) → World → World → Array Event → (Nat → Prop) → Prop} {Stop : (Nat → Prop) → Goroutine → World → Prop} {S : Nat → Prop} {w : World} {b : Frame} {a : Act} {k : List Item} {cs : List Frame} {ops : Array Oper} {i : Nat} {rest : List Nat} {o : Oper}
/-- One operation. -/
theorem go1_op (ho : ops[i]? = some o) (hw : Region.wanted o (yielded ops a.tmps) = true) (hk : b.kind ≠ .early)
    (h : ∀ w₁, R S w w₁ → ∀ K : Act → World → Prop, (∀ a' w', (∃ S', D S w₁ w' (listed P b.fn a o w₁) S' ∧ Go1 P main R D Stop S' (G (b.at a' (.inRegion ops rest :: k)) cs) w') → K a' w') → uponK o a K ((execOp a.eval o).run P w₁)) :
    Go1 P main R D Stop S (G (b.at a (.inRegion ops (i :: rest) :: k)) cs) w := by
  refine Go1.step rfl fun w₁ h₁ => ?_
  have := goes_oper_k (P := P) (main := main) (cs := cs) (k := k) (rest := rest) (w := w₁) (K := fun g' w' es => ∃ S', D S w₁ w' es S' ∧ Go1 P main R D Stop S' g' w') ho hw hk (h w₁ h₁)
  cases hg : stepG P main (G (b.at a (.inRegion ops (i :: rest) :: k)) cs) w₁ with
  | go g' w' es =>
    rw [hg] at this
    obtain ⟨S', h1, h2⟩ := this
    exact ⟨g', w', es, S', rfl, h1, h2⟩
  | _ => rw [hg] at this; exact this.elim
end
section
variable {P : Program} {ty : TypeId} {Wg C : Nat} {Rm S : Nat → Prop} {Stop : (Nat → Prop) → Goroutine → World → Prop} {g : Goroutine} {w : World} {n : Nat} {es : Array Event}
theorem dm_same {a b : World} (h : DE1 Rm S a b es) : DM Wg Rm S a b es S := by
  obtain ⟨rfl, h⟩ := h
  exact ⟨rfl, rfl, rfl, Nat.le_refl _, fun b => ⟨.inl, fun h => h.elim id fun h => by omega⟩, fun _ _ _ => rfl, fun e he => .inl (h e he)⟩
theorem gm_go (h : Goes P true (RM ty Wg C Rm S) (DE1 Rm S) (fun g w => GM P ty Wg C Rm Stop S g w) n g w) : GM P ty Wg C Rm Stop S g w :=
  Go1.bind (fun _ a => RM.refl a) (Go1.of_goes (Stop := fun S g w => GM P ty Wg C Rm Stop S g w) (fun _ _ h => h) (fun _ _ _ h => dm_same h) (fun _ _ h => h) h) fun _ _ _ h => h
theorem dm_alloc {o : Obj} (h : ∀ e ∈ es, EvS Rm (fun b => S b ∨ b = w.heap.size) e) : DM Wg Rm S w (w.alloc o) es (fun b => S b ∨ b = w.heap.size) := by
  have hs : (w.alloc o).heap.size = w.heap.size + 1 := Array.size_push _
  exact ⟨rfl, rfl, rfl, by omega, fun b => ⟨fun h => h.imp id fun h => by omega, fun h => h.imp id fun h => by omega⟩, fun b hb _ => heap_alloc_old w o b hb, fun e he => .inl (h e he)⟩
theorem dm_store {a : Addr} {v : Value} (hS : S a.block) (h : ∀ e ∈ es, EvS Rm S e) : DM Wg Rm S w (w.setCell a v) es S := by
  have hs : (w.setCell a v).heap.size = w.heap.size := by simp [World.setCell]
  exact ⟨rfl, rfl, rfl, by omega, fun b => ⟨.inl, fun h => h.elim id fun h => by omega⟩, fun b hb hn => heap_setCell_other w a b v fun e => hn (e ▸ hS), fun e he => .inl (h e he)⟩
end
/-- 'go' of a closure. -/
theorem stepG_go_closure {P : Program} {main : Bool} {b : Frame} {a : Act} {k : List Item} {cs : List Frame} {w : World} {f : FuncId} {cap : Array Value} {ops : Array Oper} {i : Nat} {rest : List Nat} {o : Oper} {t : Tmp} {ats : Array TypeId} (ho : ops[i]? = some o) (hw : Region.wanted o (yielded ops a.tmps) = true)
    (hk : b.kind ≠ .early) (hop : o.op = .go { callee := .value (.tmp t), args := #[], argTypes := ats }) (hv : a.eval (.tmp t) = .func (.func f) #[] cap) :
    stepG P main (G (b.at a (.inRegion ops (i :: rest) :: k)) cs) w = .spawn (G (b.at (a.put o.dst undef) (.inRegion ops rest :: k)) cs) (born P (dclos f cap)) w #[] := by
  have hr : (execOp a.eval o).run P w = .ok (.spawn (dclos f cap)) w := by
    unfold execOp
    simp [hop, resolve, Deferred.ofValue, hv, dclos]
  have he : (execOp a.eval o).events P w #[] = #[] := by
    unfold execOp
    simp [hop, resolve, Deferred.ofValue, hv]
  rw [stepG_spawn ho hw hk hr rfl]
  have : listed P b.fn a o w = #[] := by unfold listed; rw [he]; exact seen_none P _
  rw [this]
/-- What is handed to sharedWork, and what its calls do. -/
structure Task (Wg C bn bk bd n k : Nat) (fd : FuncId) (capd : Array Value) (Rm0 : Nat → Prop) (mine : Nat → Nat → Prop) (U : World → Prop) (J : Nat → Nat → (Nat → Prop) → World → Prop) (Fact : Nat → (Nat → Prop) → World → Prop) : Prop where
  hn : n < 4294967296
  hk : 1 ≤ k ∧ k < 65536
  fn : ∃ fn code, Try.prog.funcs[fd]? = some fn ∧ (fn.name == "runtime.NumGoroutine") = false ∧ fn.body = some code
  hU : ∀ a b, b.tape = a.tape ∧ b.os = a.os ∧ b.output = a.output → (∀ x, Rm0 x → b.heap[x]? = a.heap[x]?) → OutStay C (fun _ => False) a b → U a → U b
  hJ : ∀ j Rd i S a b, (∀ x, Rm0 x → Rd x) → RW link.tWg Wg C (mine j) Rd S a b → J j i S a → J j i S b
  hF : ∀ j S a b, (∀ x, S x → b.heap[x]? = a.heap[x]?) → OutStay C (mine j) a b → Fact j S a → Fact j S b
  h0 : ∀ j w, j < k → U w → J j j (fun _ => False) w
  hend : ∀ j i S w, n ≤ i → J j i S w → Fact j S w
  hdo : ∀ j, j < k → ∀ (Rd : Nat → Prop) (bw bf b1 : Nat), (∀ x, Rm0 x → Rd x) → ∀ (i : Nat) (S : Nat → Prop) (w : World) (b : Frame) (a : Act) (ops : Array Oper) (x : Nat) (rest : List Nat) (kk : List Item) (cs : List Frame), i < n →
    WInv link.tWg Wg C bw bf b1 bn bk bd n k j fd capd Rd S w → J j i S w →
    GW Try.prog link.tWg Wg C (mine j) Rd (fun S' g' w' => g' = G (b.at (a.put ((ops[x]?).bind (·.dst)) (.tuple #[])) (.inRegion ops rest :: kk)) cs ∧ J j (i + k) S' w') S (G (Frame.enter Try.prog fd (#[.int .i64 i] ++ capd) .normal) (b.at a (.inRegion ops (x :: rest) :: kk) :: cs)) w
/-- What the starter knows: the places; what it has made since the last go statement. -/
structure SK (Wg C bn bk bd n k : Nat) (fd : FuncId) (capd : Array Value) (Rm0 : Nat → Prop) (U : World → Prop) (own : List (Nat × Value × TypeId)) (Rm S : Nat → Prop) (w : World) : Prop where
  wg : Wg < w.heap.size ∧ ¬ S Wg
  c : C < w.heap.size ∧ ¬ S C
  cw : C ≠ Wg
  rm : ∀ b, Rm b → b < w.heap.size ∧ b ≠ C ∧ b ≠ Wg ∧ ¬ S b
  sm : ∀ b, S b → b < w.heap.size
  r0 : ∀ b, Rm0 b → Rm b
  rn : Rm bn
  rk : Rm bk
  rd : Rm bd
  cn : w.cell? ⟨bn, 0, none⟩ = some (.int .i64 n)
  ck : w.cell? ⟨bk, 0, none⟩ = some (.int .i64 k)
  cd : w.cell? ⟨bd, 0, none⟩ = some (.func (.func fd) #[] capd)
  u : U w
  own : ∀ p ∈ own, S p.1 ∧ w.heap[p.1]? = some (.cells #[p.2.1] p.2.2)
section
variable {Wg C bn bk bd n k : Nat} {fd : FuncId} {capd : Array Value} {Rm0 : Nat → Prop} {mine : Nat → Nat → Prop} {U : World → Prop} {J : Nat → Nat → (Nat → Prop) → World → Prop} {Fact : Nat → (Nat → Prop) → World → Prop}
  {own : List (Nat × Value × TypeId)} {Rm S : Nat → Prop} {w w₁ : World}
theorem SK.move (T : Task Wg C bn bk bd n k fd capd Rm0 mine U J Fact) (h : SK Wg C bn bk bd n k fd capd Rm0 U own Rm S w) (ht : w₁.tape = w.tape ∧ w₁.os = w.os ∧ w₁.output = w.output) (hs : w.heap.size ≤ w₁.heap.size) (hr : ∀ b, Rm b → w₁.heap[b]? = w.heap[b]?) (ho : ∀ b, S b → w₁.heap[b]? = w.heap[b]?) (hC : OutStay C (fun _ => False) w w₁) :
    SK Wg C bn bk bd n k fd capd Rm0 U own Rm S w₁ :=
  ⟨⟨Nat.lt_of_lt_of_le h.wg.1 hs, h.wg.2⟩, ⟨Nat.lt_of_lt_of_le h.c.1 hs, h.c.2⟩, h.cw, fun b hb => ⟨Nat.lt_of_lt_of_le (h.rm b hb).1 hs, (h.rm b hb).2⟩, fun b hb => Nat.lt_of_lt_of_le (h.sm b hb) hs, h.r0, h.rn, h.rk, h.rd,
    (cell_stay (hr _ h.rn)).trans h.cn, (cell_stay (hr _ h.rk)).trans h.ck, (cell_stay (hr _ h.rd)).trans h.cd, T.hU _ _ ht (fun x hx => hr x (h.r0 x hx)) hC h.u, fun p hp => ⟨(h.own p hp).1, (ho _ (h.own p hp).1).trans (h.own p hp).2⟩⟩
theorem SK.rely (T : Task Wg C bn bk bd n k fd capd Rm0 mine U J Fact) (h : SK Wg C bn bk bd n k fd capd Rm0 U own Rm S w) (r : RM link.tWg Wg C Rm S w w₁) : SK Wg C bn bk bd n k fd capd Rm0 U own Rm S w₁ := h.move T ⟨r.tape, r.os, r.output⟩ r.size r.rd r.own r.out
theorem SK.aside (T : Task Wg C bn bk bd n k fd capd Rm0 mine U J Fact) (h : SK Wg C bn bk bd n k fd capd Rm0 U own Rm S w) (r : Aside Wg w w₁) : SK Wg C bn bk bd n k fd capd Rm0 U own Rm S w₁ :=
  h.move T ⟨r.tape, r.os, r.output⟩ (by rw [r.size]; exact Nat.le_refl _) (fun b hb => r.block b (h.rm b hb).2.2.1) (fun b hb => r.block b fun e => h.wg.2 (e ▸ hb)) (.of_block (r.block C h.cw))
theorem SK.alloc (T : Task Wg C bn bk bd n k fd capd Rm0 mine U J Fact) (h : SK Wg C bn bk bd n k fd capd Rm0 U own Rm S w) (v : Value) (t : TypeId) : SK Wg C bn bk bd n k fd capd Rm0 U ((w.heap.size, v, t) :: own) Rm (fun b => S b ∨ b = w.heap.size) (w.alloc (.cells #[v] t)) := by
  have old : ∀ b, b < w.heap.size → (w.alloc (.cells #[v] t)).heap[b]? = w.heap[b]? := fun b hb => heap_alloc_old w _ b hb
  have hs : (w.alloc (.cells #[v] t)).heap.size = w.heap.size + 1 := Array.size_push _
  have m := h.move T (w₁ := w.alloc (.cells #[v] t)) ⟨rfl, rfl, rfl⟩ (by omega) (fun b hb => old b (h.rm b hb).1) (fun b hb => old b (h.sm b hb)) (.of_block (old C h.c.1))
  have h1 := h.wg.1
  have h2 := h.c.1
  refine ⟨⟨m.wg.1, fun x => x.elim h.wg.2 fun e => by omega⟩, ⟨m.c.1, fun x => x.elim h.c.2 fun e => by omega⟩, m.cw, fun b hb => ⟨(m.rm b hb).1, (m.rm b hb).2.1, (m.rm b hb).2.2.1, fun x => x.elim (m.rm b hb).2.2.2 fun e => by have := (h.rm b hb).1; omega⟩,
    fun b hb => hb.elim (m.sm b) fun e => by omega, m.r0, m.rn, m.rk, m.rd, m.cn, m.ck, m.cd, m.u, fun p hp => ?_⟩
  rcases List.mem_cons.1 hp with rfl | hp
  · exact ⟨.inr rfl, heap_alloc_new w _⟩
  · exact ⟨.inl (m.own p hp).1, (m.own p hp).2⟩
theorem SK.store (T : Task Wg C bn bk bd n k fd capd Rm0 mine U J Fact) {b : Nat} {v v' : Value} {t : TypeId} (h : SK Wg C bn bk bd n k fd capd Rm0 U [(b, v, t)] Rm S w) : SK Wg C bn bk bd n k fd capd Rm0 U [(b, v', t)] Rm S (w.setCell ⟨b, 0, none⟩ v') := by
  obtain ⟨hS, hb⟩ := h.own (b, v, t) (by simp)
  simp only at hS hb
  have old : ∀ c, c ≠ b → (w.setCell ⟨b, 0, none⟩ v').heap[c]? = w.heap[c]? := fun c hc => heap_setCell_other w _ c v' hc
  have hs : (w.setCell ⟨b, 0, none⟩ v').heap.size = w.heap.size := by simp [World.setCell]
  have m : SK Wg C bn bk bd n k fd capd Rm0 U [] Rm S (w.setCell ⟨b, 0, none⟩ v') := by
    have hr : ∀ x, Rm x → (w.setCell ⟨b, 0, none⟩ v').heap[x]? = w.heap[x]? := fun x hx => old x fun e => (h.rm x hx).2.2.2 (e ▸ hS)
    exact ⟨by rw [hs]; exact h.wg, by rw [hs]; exact h.c, h.cw, fun x hx => by rw [hs]; exact h.rm x hx, fun x hx => by rw [hs]; exact h.sm x hx, h.r0, h.rn, h.rk, h.rd, (cell_stay (hr _ h.rn)).trans h.cn, (cell_stay (hr _ h.rk)).trans h.ck, (cell_stay (hr _ h.rd)).trans h.cd,
      T.hU w _ ⟨rfl, rfl, rfl⟩ (fun x hx => hr x (h.r0 x hx)) (.of_block (old C fun e => h.c.2 (e ▸ hS))) h.u, by simp⟩
  refine ⟨m.wg, m.c, m.cw, m.rm, m.sm, m.r0, m.rn, m.rk, m.rd, m.cn, m.ck, m.cd, m.u, fun p hp => ?_⟩
  obtain rfl : p = (b, v', t) := by simpa using hp
  exact ⟨hS, by rw [heap_setCell_same w b 0 #[v] t v' hb]; rfl⟩
theorem live_alloc {o : Obj} (hw : Wg < w.heap.size) (h : WgLive link.tWg Wg w) : WgLive link.tWg Wg (w.alloc o) := live_of_block (heap_alloc_old w o Wg hw) h
theorem live_store {a : Addr} {v : Value} (hw : Wg ≠ a.block) (h : WgLive link.tWg Wg w) : WgLive link.tWg Wg (w.setCell a v) := live_of_block (heap_setCell_other w a Wg v hw) h
theorem SK.cell (h : SK Wg C bn bk bd n k fd capd Rm0 U own Rm S w) {b : Nat} {v : Value} {t : TypeId} (hp : (b, v, t) ∈ own) : w.cell? ⟨b, 0, none⟩ = some v := by
  have := (h.own _ hp).2
  simp only at this
  simp [World.cell?, this]
end
end Go.Proofs.Ytmmolicodlmlkaa.Ph
namespace Go.Proofs.Ytmmolicodlmlkaa.Ph
open Go.Conc Go.ConcN Go.RowKit Go.Conc.Lib Go.ConcR.Gen Go.ConcN.Gen
open Go.ConcR (KK wgBlock WgAt stA smA rd wr mk DC0 Payload)
open Go.Proofs.Ytmmolicodlmlkaa.Rel (RS DS EvS Tr Sub GoT Go1)
set_option linter.unusedVariables false
set_option linter.unusedSimpArgs false

noncomputable def ls : Code := match Try.f81.body with | some (.seq _ (.seq _ (.seq (.seq _ (.block _ (.loop c))) _))) => c | _ => .skip
noncomputable def ls7 : Code := match Try.f81.body with | some (.seq _ (.seq _ (.seq _ c))) => c | _ => .skip
theorem nm_go : (Try.f125.name == "runtime.NumGoroutine") = false := by kernel_rfl
section
variable {Wg C bn bk bd n k : Nat} {fd : FuncId} {capd : Array Value} {Rm0 : Nat → Prop} {mine : Nat → Nat → Prop} {U : World → Prop} {J : Nat → Nat → (Nat → Prop) → World → Prop} {Fact : Nat → (Nat → Prop) → World → Prop} {cs : List Frame}
/-- What the starter knows while nothing is its own. -/
def SF (Wg C bn bk bd n k : Nat) (fd : FuncId) (capd : Array Value) (Rm0 : Nat → Prop) (U : World → Prop) (Rm S : Nat → Prop) (w : World) : Prop := SK Wg C bn bk bd n k fd capd Rm0 U [] Rm S w
def AnchS (Wg C bn bk bd n k : Nat) (fd : FuncId) (capd : Array Value) (Rm0 : Nat → Prop) (U : World → Prop) (cs : List Frame) (Rm S : Nat → Prop) (g : Goroutine) (w : World) : Prop :=
  ∃ a ops i, a.defers = [] ∧ AnchWN link (SF Wg C bn bk bd n k fd capd Rm0 U Rm S) Wg ((base 81).at a [.inRegion ops [i]]) cs g w
def NxS (Wg C bn bk bd n k : Nat) (fd : FuncId) (capd : Array Value) (Rm0 : Nat → Prop) (U : World → Prop) (cs : List Frame) (Rm S : Nat → Prop) (g : Goroutine) (w : World) : Prop :=
  (∃ a ops, a.defers = [] ∧ AfterW Try.prog ((base 81).at a [.inRegion ops []]) cs g) ∧ SF Wg C bn bk bd n k fd capd Rm0 U Rm S w ∧ WgLive link.tWg Wg w
theorem spawns_seg {P : Program} {ty : TypeId} {N m : Nat} {Anch : (Nat → Prop) → (Nat → Prop) → Goroutine → World → Prop} {Rm S : Nat → Prop} {g : Goroutine} {w : World} : ∀ {r : Nat},
    Goes P true (RM ty Wg C Rm S) (DE1 Rm S) (fun g w => Spawns P ty Wg C mine Fact N (Fin P ty Wg C Anch) r Rm S g w) m g w → Spawns P ty Wg C mine Fact N (Fin P ty Wg C Anch) r Rm S g w
  | 0, h => gm_go h
  | _ + 1, h => gm_go h
set_option maxRecDepth 100000 in
set_option maxHeartbeats 8000000 in
theorem starter (T : Task Wg C bn bk bd n k fd capd Rm0 mine U J Fact) : ∀ (r j : Nat), j + r = k → ∀ (Rm : Nat → Prop) (w : World) (v7 v8 v11 v12 v13 v14 v15 v16 : Value), SK Wg C bn bk bd n k fd capd Rm0 U [] Rm (fun _ => False) w → WgLive link.tWg Wg w →
    Spawns Try.prog link.tWg Wg C mine Fact k (Fin Try.prog link.tWg Wg C (AnchS Wg C bn bk bd n k fd capd Rm0 U cs)) r Rm (fun _ => False)
      (G ((base 81).at ⟨#[.int .i64 n, .int .i64 k, .func (.func fd) #[] capd, ptr bn, ptr bk, ptr bd, ptr Wg, v7, v8, .int .i64 k, .int .i64 j, v11, v12, v13, v14, v15, v16], []⟩ [.code ls, .inLoop ls, .inBlock 0, .code ls7]) cs) w := by
  intro r
  have hk := T.hk
  induction r with
  | zero =>
    intro j hj Rm w v7 v8 v11 v12 v13 v14 v15 v16 hS hl
    have hF : SK Wg C bn bk bd n k fd capd Rm0 U [] Rm (fun _ => False) w ∧ WgLive link.tWg Wg w := ⟨hS, hl⟩
    have rl : ∀ {a b : World}, SK Wg C bn bk bd n k fd capd Rm0 U [] Rm (fun _ => False) a ∧ WgLive link.tWg Wg a → RM link.tWg Wg C Rm (fun _ => False) a b → SK Wg C bn bk bd n k fd capd Rm0 U [] Rm (fun _ => False) b ∧ WgLive link.tWg Wg b := fun h r => ⟨h.1.rely T r, r.live h.2⟩
    refine spawns_seg (m := 40) ?_
    simp only [ls, ls7, Try.f81]
    (u_in rl hF; rw [stepG_seq]; simp only [goes_go]; refine ⟨by (refine de1_none ?_; intro e he; simp at he), ?_⟩)
    (u_in rl hF; rw [stepG_region]; simp only [goes_go, List.size_toArray, List.length_cons, List.length_nil, Nat.reduceAdd, Nat.zero_add, List.range, List.range.loop]; refine ⟨by (refine de1_none ?_; intro e he; simp at he), ?_⟩)
    u_in rl hF
    refine goes_oper_k rfl rfl (by k_ne) (fun K hK => ?_)
    go_simp
    refine hK _ _ ⟨?_, ?_⟩
    · refine de1_none ?_
      intro e he
      have hm := mem_listed he
      simp [go_sem, *] at hm
    clear hK K
    try w_num
    (u_in rl hF; rw [stepG_region_end]; simp only [goes_go]; refine ⟨by (refine de1_none ?_; intro e he; simp at he), ?_⟩)
    (u_in rl hF; rw [stepG_seq]; simp only [goes_go]; refine ⟨by (refine de1_none ?_; intro e he; simp at he), ?_⟩)
    (u_in rl hF; rw [stepG_cond (t := false) (by first | rfl | (simp [Act.eval]; omega))]; simp only [goes_go, if_true, if_false, Bool.false_eq_true, ↓reduceIte]; refine ⟨by (refine de1_none ?_; intro e he; simp at he), ?_⟩)
    (u_in rl hF; refine goes_exit rfl ?_; refine ⟨by (refine de1_none ?_; intro e he; simp at he), ?_⟩)
    (u_in rl hF; rw [stepG_region]; simp only [goes_go, List.size_toArray, List.length_cons, List.length_nil, Nat.reduceAdd, Nat.zero_add, List.range, List.range.loop]; refine ⟨by (refine de1_none ?_; intro e he; simp at he), ?_⟩)
    u_in rl hF
    refine goes_call rfl rfl (by k_ne) rfl wgLib.f_wait (nm_wait link) rfl ⟨by (refine de1_none ?_; intro e he; simp at he), ?_⟩
    walk_nrmf waitFn
    refine Goes.stop fun w₁ h₁ => ?_
    replace hF := rl hF h₁
    have hW := @waitStart link Try.prog Wg C Rm (fun _ => False) (SF Wg C bn bk bd n k fd capd Rm0 U Rm (fun _ => False)) (AnchS Wg C bn bk bd n k fd capd Rm0 U cs Rm)
    simp only [body_wait, waitFn, Option.getD_some] at hW
    exact hW wgLib (fun a b r h => SK.rely T h r) (fun g w h => ⟨_, _, _, rfl, h⟩) w₁ hF
  | succ r ih =>
    intro j hj Rm w v7 v8 v11 v12 v13 v14 v15 v16 hS hl
    have hF : SK Wg C bn bk bd n k fd capd Rm0 U [] Rm (fun _ => False) w ∧ WgLive link.tWg Wg w := ⟨hS, hl⟩
    have rl : ∀ {a b : World}, SK Wg C bn bk bd n k fd capd Rm0 U [] Rm (fun _ => False) a ∧ WgLive link.tWg Wg a → RM link.tWg Wg C Rm (fun _ => False) a b → SK Wg C bn bk bd n k fd capd Rm0 U [] Rm (fun _ => False) b ∧ WgLive link.tWg Wg b := fun h r => ⟨h.1.rely T r, r.live h.2⟩
    refine spawns_seg (m := 40) ?_
    simp only [ls, ls7, Try.f81]
    (u_in rl hF; rw [stepG_seq]; simp only [goes_go]; refine ⟨by (refine de1_none ?_; intro e he; simp at he), ?_⟩)
    (u_in rl hF; rw [stepG_region]; simp only [goes_go, List.size_toArray, List.length_cons, List.length_nil, Nat.reduceAdd, Nat.zero_add, List.range, List.range.loop]; refine ⟨by (refine de1_none ?_; intro e he; simp at he), ?_⟩)
    u_in rl hF
    refine goes_oper_k rfl rfl (by k_ne) (fun K hK => ?_)
    go_simp
    refine hK _ _ ⟨?_, ?_⟩
    · refine de1_none ?_
      intro e he
      have hm := mem_listed he
      simp [go_sem, *] at hm
    clear hK K
    try w_num
    (u_in rl hF; rw [stepG_region_end]; simp only [goes_go]; refine ⟨by (refine de1_none ?_; intro e he; simp at he), ?_⟩)
    (u_in rl hF; rw [stepG_seq]; simp only [goes_go]; refine ⟨by (refine de1_none ?_; intro e he; simp at he), ?_⟩)
    (u_in rl hF; rw [stepG_cond (t := true) (by first | rfl | (simp [Act.eval]; omega))]; simp only [goes_go, if_true, if_false, Bool.false_eq_true, ↓reduceIte]; refine ⟨by (refine de1_none ?_; intro e he; simp at he), ?_⟩)
    (u_in rl hF; rw [stepG_skip]; simp only [goes_go]; refine ⟨by (refine de1_none ?_; intro e he; simp at he), ?_⟩)
    (u_in rl hF; rw [stepG_seq]; simp only [goes_go]; refine ⟨by (refine de1_none ?_; intro e he; simp at he), ?_⟩)
    (u_in rl hF; rw [stepG_block]; simp only [goes_go]; refine ⟨by (refine de1_none ?_; intro e he; simp at he), ?_⟩)
    (u_in rl hF; rw [stepG_seq]; simp only [goes_go]; refine ⟨by (refine de1_none ?_; intro e he; simp at he), ?_⟩)
    (u_in rl hF; rw [stepG_region]; simp only [goes_go, List.size_toArray, List.length_cons, List.length_nil, Nat.reduceAdd, Nat.zero_add, List.range, List.range.loop]; refine ⟨by (refine de1_none ?_; intro e he; simp at he), ?_⟩)
    u_in rl hF
    refine goes_oper_k rfl rfl (by k_ne) (fun K hK => ?_)
    go_simp
    refine hK _ _ ⟨?_, ?_⟩
    · refine de1_none ?_
      intro e he
      have hm := mem_listed he
      simp [go_sem, *] at hm
    clear hK K
    try w_num
    refine Goes.stop fun w₁ h₁ => ?_
    replace hF := rl hF h₁
    clear h₁
    show GM Try.prog link.tWg Wg C Rm (MKdS Try.prog link.tWg Wg C mine Fact (k - (r + 1)) (Spawns Try.prog link.tWg Wg C mine Fact k (Fin Try.prog link.tWg Wg C (AnchS Wg C bn bk bd n k fd capd Rm0 U cs)) r) Rm) (fun _ => False) _ _
    -- the variable of the loop is made anew
    refine go1_op rfl rfl (by k_ne) (fun w₂ h₂ K hK => ?_)
    replace hF := rl hF h₂
    clear h₂ rl
    go_simp
    refine hK _ _ ⟨_, dm_alloc (fun e he => ?_), ?_⟩
    · have hm := mem_listed he
      simp [go_sem, storedEv, *] at hm
    clear hK K
    replace hF := And.intro (hF.1.alloc T (.int .i64 0) 3) (live_alloc (o := .cells #[.int .i64 0] 3) hF.1.wg.1 hF.2)
    generalize hb : w₂.heap.size = b1 at hF ⊢
    generalize w₂.alloc (.cells #[.int .i64 0] 3) = w₃ at hF ⊢
    clear hb
    have rlx : ∀ {own : List (Nat × Value × TypeId)} {S : Nat → Prop} {a b : World}, SK Wg C bn bk bd n k fd capd Rm0 U own Rm S a ∧ WgLive link.tWg Wg a → RM link.tWg Wg C Rm S a b → SK Wg C bn bk bd n k fd capd Rm0 U own Rm S b ∧ WgLive link.tWg Wg b := fun h r => ⟨h.1.rely T r, r.live h.2⟩
    -- it is stored
    refine go1_op rfl rfl (by k_ne) (fun w₄ h₄ K hK => ?_)
    replace hF := rlx hF h₄
    clear h₄
    have hb1 := (hF.1.own (b1, .int .i64 0, 3) (by simp)).2
    have hc1 := hF.1.cell (b := b1) (v := .int .i64 0) (t := 3) (by simp)
    simp only at hb1
    have hfz : w₄.frozen? ⟨b1, 0, none⟩ = false := by simp [World.frozen?, hb1]
    go_simp
    refine hK _ _ ⟨_, dm_store (S := fun b => False ∨ b = b1) (a := ⟨b1, 0, none⟩) (.inr rfl) (fun e he => ?_), ?_⟩
    · have hm := mem_listed he
      simp [go_sem, storedEv, *] at hm
      subst hm
      exact .inl ⟨_, rfl, .inl (.inr rfl), rfl⟩
    clear hK K hb1 hc1 hfz
    replace hF := And.intro (hF.1.store T (v' := .int .i64 j)) (live_store (a := ⟨b1, 0, none⟩) (v := .int .i64 j) (fun e => hF.1.wg.2 (.inr e)) hF.2)
    generalize w₄.setCell ⟨b1, 0, none⟩ (.int .i64 j) = w₅ at hF ⊢
    refine gm_go (n := 40) ?_
    (u_in rlx hF; rw [stepG_region_end]; simp only [goes_go]; refine ⟨by (refine de1_none ?_; intro e he; simp at he), ?_⟩)
    (u_in rlx hF; rw [stepG_region]; simp only [goes_go, List.size_toArray, List.length_cons, List.length_nil, Nat.reduceAdd, Nat.zero_add, List.range, List.range.loop]; refine ⟨by (refine de1_none ?_; intro e he; simp at he), ?_⟩)
    u_in rlx hF
    refine goes_oper_k rfl rfl (by k_ne) (fun K hK => ?_)
    go_simp
    refine hK _ _ ⟨?_, ?_⟩
    · refine de1_none ?_
      intro e he
      have hm := mem_listed he
      simp [go_sem, *] at hm
    clear hK K
    try w_num
    u_in rlx hF
    refine goes_call rfl rfl (by k_ne) rfl Try.func125 nm_go rfl ⟨by (refine de1_none ?_; intro e he; simp at he), ?_⟩
    walk_nrmf Try.f125
    (u_in rlx hF; rw [stepG_seq]; simp only [goes_go]; refine ⟨by (refine de1_none ?_; intro e he; simp at he), ?_⟩)
    (u_in rlx hF; rw [stepG_region]; simp only [goes_go, List.size_toArray, List.length_cons, List.length_nil, Nat.reduceAdd, Nat.zero_add, List.range, List.range.loop]; refine ⟨by (refine de1_none ?_; intro e he; simp at he), ?_⟩)
    refine Goes.stop fun w₆ h₆ => ?_
    replace hF := rlx hF h₆
    clear h₆
    -- the boxes of the library's Go
    refine go1_op rfl rfl (by k_ne) (fun w₇ h₇ K hK => ?_)
    replace hF := rlx hF h₇
    clear h₇
    go_simp
    refine hK _ _ ⟨_, dm_alloc (fun e he => ?_), ?_⟩
    · have hm := mem_listed he
      simp [go_sem, storedEv, *] at hm
    clear hK K
    replace hF := And.intro (hF.1.alloc T (ptr Wg) 137) (live_alloc (o := .cells #[ptr Wg] 137) hF.1.wg.1 hF.2)
    generalize hb : w₇.heap.size = bw at hF ⊢
    generalize w₇.alloc (.cells #[ptr Wg] 137) = w₈ at hF ⊢
    clear hb
    refine go1_op rfl rfl (by k_ne) (fun w₉ h₉ K hK => ?_)
    replace hF := rlx hF h₉
    clear h₉
    go_simp
    refine hK _ _ ⟨_, dm_alloc (fun e he => ?_), ?_⟩
    · have hm := mem_listed he
      simp [go_sem, storedEv, *] at hm
    clear hK K
    replace hF := And.intro (hF.1.alloc T (.func (.func 126) #[] #[ptr b1, ptr bn, ptr bk, ptr bd]) 1) (live_alloc (o := .cells #[.func (.func 126) #[] #[ptr b1, ptr bn, ptr bk, ptr bd]] 1) hF.1.wg.1 hF.2)
    generalize hb : w₉.heap.size = bf at hF ⊢
    generalize w₉.alloc (.cells #[.func (.func 126) #[] #[ptr b1, ptr bn, ptr bk, ptr bd]] 1) = wA at hF ⊢
    clear hb
    refine gm_go (n := 40) ?_
    (u_in rlx hF; rw [stepG_region_end]; simp only [goes_go]; refine ⟨by (refine de1_none ?_; intro e he; simp at he), ?_⟩)
    (u_in rlx hF; rw [stepG_seq]; simp only [goes_go]; refine ⟨by (refine de1_none ?_; intro e he; simp at he), ?_⟩)
    (u_in rlx hF; rw [stepG_region]; simp only [goes_go, List.size_toArray, List.length_cons, List.length_nil, Nat.reduceAdd, Nat.zero_add, List.range, List.range.loop]; refine ⟨by (refine de1_none ?_; intro e he; simp at he), ?_⟩)
    g_opw rlx hF [hF.1.cell (b := bw) (v := ptr Wg) (t := 137) (by simp)] rfl (.inl ⟨_, rfl, .inl (.inl (.inr rfl)), rfl⟩)
    u_in rlx hF
    refine goes_call rfl rfl (by k_ne) rfl wgLib.f_add (nm_add link) rfl ⟨by (refine de1_none ?_; intro e he; simp at he), ?_⟩
    walk_nrmf addFn
    refine Goes.stop fun wB hB => ?_
    replace hF := rlx hF hB
    clear hB
    generalize hSS : (fun b => ((False ∨ b = b1) ∨ b = bw) ∨ b = bf) = S at hF ⊢
    have hA := @addPos link Try.prog Wg C Rm S (SK Wg C bn bk bd n k fd capd Rm0 U [(bf, .func (.func 126) #[] #[ptr b1, ptr bn, ptr bk, ptr bd], 1), (bw, ptr Wg, 137), (b1, .int .i64 j, 3)] Rm S) mine Fact (k - (r + 1))
      (Spawns Try.prog link.tWg Wg C mine Fact k (Fin Try.prog link.tWg Wg C (AnchS Wg C bn bk bd n k fd capd Rm0 U cs)) r)
    simp only [body_add, addFn, Option.getD_some] at hA
    refine hA wgLib (fun a b r h => SK.rely T h r) (fun a b r h => SK.aside T h r) ?_ wB hF
    clear hA hF
    intro wC hK hL
    have hF := And.intro hK hL
    clear hK hL
    refine gm_go (n := 40) ?_
    walk_nrm
    (u_in rlx hF; rw [stepG_region_end]; simp only [goes_go]; refine ⟨by (refine de1_none ?_; intro e he; simp at he), ?_⟩)
    (u_in rlx hF; rw [stepG_region]; simp only [goes_go, List.size_toArray, List.length_cons, List.length_nil, Nat.reduceAdd, Nat.zero_add, List.range, List.range.loop]; refine ⟨by (refine de1_none ?_; intro e he; simp at he), ?_⟩)
    u_in rlx hF
    refine goes_oper_k rfl rfl (by k_ne) (fun K hK => ?_)
    go_simp
    refine hK _ _ ⟨?_, ?_⟩
    · refine de1_none ?_
      intro e he
      have hm := mem_listed he
      simp [go_sem, *] at hm
    clear hK K
    try w_num
    refine Goes.stop fun wD hD => Go1.stop fun wE hE => ?_
    replace hF := rlx (rlx hF hD) hE
    clear hD hE
    have ej : k - (r + 1) = j := by omega
    have hjk : j < k := by omega
    have hS1 : S b1 ∧ S bw ∧ S bf := by rw [← hSS]; simp
    refine ⟨rfl, _, _, fun _ => False, fun b => Rm b ∨ S b, stepG_go_closure (f := 141) (cap := #[ptr bw, ptr bf]) rfl rfl (by k_ne) rfl rfl, rfl, fun b h => h.elim, fun b h => h.imp id fun h => ⟨h, id⟩, ?_, ?_⟩
    · obtain ⟨fn, code, f1, f2, f3⟩ := T.fn
      have hsub : ∀ x, Rm0 x → (fun b => Rm b ∨ S b) x := fun x hx => .inl (hF.1.r0 x hx)
      rw [ej]
      refine worker (bw := bw) (bf := bf) (b1 := b1) (bn := bn) (bk := bk) (bd := bd) (n := n) (k := k) (j := j) (fd := fd) (capd := capd) (J := J j) T.hn ⟨hk.1, by omega⟩ hjk f1 f2 f3 (fun i S a b => T.hJ j _ i S a b hsub) (fun S a b r => T.hF j S a b r.own r.out) (T.hdo j hjk _ bw bf b1 hsub) (T.hend j) ⟨?_, hF.2, ?_⟩ (T.h0 j _ hjk hF.1.u)
      · refine ⟨⟨hF.1.wg.1, id⟩, ⟨hF.1.c.1, id⟩, hF.1.cw, fun b h => h.elim, fun b h => ?_⟩
        rcases h with h | h
        · exact ⟨(hF.1.rm b h).1, id, (hF.1.rm b h).2.1⟩
        · exact ⟨hF.1.sm b h, id, fun e => hF.1.c.2 (e ▸ h)⟩
      · exact ⟨.inr hS1.2.1, .inr hS1.2.2, .inr hS1.1, .inl hF.1.rn, .inl hF.1.rk, .inl hF.1.rd, hF.1.cell (t := 137) (by simp), hF.1.cell (t := 1) (by simp), hF.1.cell (t := 3) (by simp), hF.1.cn, hF.1.ck, hF.1.cd⟩
    · replace hF : SK Wg C bn bk bd n k fd capd Rm0 U [] (fun b => Rm b ∨ (S b ∧ ¬ False)) (fun _ => False) wE ∧ WgLive link.tWg Wg wE := by
        refine ⟨⟨⟨hF.1.wg.1, id⟩, ⟨hF.1.c.1, id⟩, hF.1.cw, fun b h => ?_, fun b h => h.elim, fun x hx => .inl (hF.1.r0 x hx), .inl hF.1.rn, .inl hF.1.rk, .inl hF.1.rd, hF.1.cn, hF.1.ck, hF.1.cd, hF.1.u, by simp⟩, hF.2⟩
        rcases h with h | ⟨h, _⟩
        · exact ⟨(hF.1.rm b h).1, (hF.1.rm b h).2.1, (hF.1.rm b h).2.2.1, id⟩
        · exact ⟨hF.1.sm b h, fun e => hF.1.c.2 (e ▸ h), fun e => hF.1.wg.2 (e ▸ h), id⟩
      clear rlx
      generalize (fun b => Rm b ∨ (S b ∧ ¬ False)) = Rm' at hF ⊢
      have rl : ∀ {a b : World}, SK Wg C bn bk bd n k fd capd Rm0 U [] Rm' (fun _ => False) a ∧ WgLive link.tWg Wg a → RM link.tWg Wg C Rm' (fun _ => False) a b → SK Wg C bn bk bd n k fd capd Rm0 U [] Rm' (fun _ => False) b ∧ WgLive link.tWg Wg b := fun h r => ⟨h.1.rely T r, r.live h.2⟩
      refine spawns_seg (m := 40) ?_
      walk_nrm
      (u_in rl hF; rw [stepG_region_end]; simp only [goes_go]; refine ⟨by (refine de1_none ?_; intro e he; simp at he), ?_⟩)
      (u_in rl hF; rw [stepG_end]; simp only [goes_go]; refine ⟨by (refine de1_none ?_; intro e he; simp at he), ?_⟩)
      (u_in rl hF; refine goes_leave0 rfl rfl Try.func125 rfl ⟨by (refine de1_none ?_; intro e he; simp at he), ?_⟩; walk_nrm)
      (u_in rl hF; rw [stepG_region_end]; simp only [goes_go]; refine ⟨by (refine de1_none ?_; intro e he; simp at he), ?_⟩)
      (u_in rl hF; rw [stepG_inBlock]; simp only [goes_go]; refine ⟨by (refine de1_none ?_; intro e he; simp at he), ?_⟩)
      (u_in rl hF; rw [stepG_region]; simp only [goes_go, List.size_toArray, List.length_cons, List.length_nil, Nat.reduceAdd, Nat.zero_add, List.range, List.range.loop]; refine ⟨by (refine de1_none ?_; intro e he; simp at he), ?_⟩)
      have hw : IntKind.i64.wrap ((j : Int) + 1) = ((j + 1 : Nat) : Int) := by rw [IntKind.wrap_i64]; omega
      u_in rl hF
      refine goes_oper_k rfl rfl (by k_ne) (fun K hK => ?_)
      go_simp
      refine hK _ _ ⟨?_, ?_⟩
      · refine de1_none ?_
        intro e he
        have hm := mem_listed he
        simp [go_sem, *] at hm
      clear hK K
      try w_num
      u_in rl hF
      refine goes_oper_k rfl rfl (by k_ne) (fun K hK => ?_)
      go_simp
      refine hK _ _ ⟨?_, ?_⟩
      · refine de1_none ?_
        intro e he
        have hm := mem_listed he
        simp [go_sem, *] at hm
      clear hK K
      try w_num
      (u_in rl hF; rw [stepG_region_end]; simp only [goes_go]; refine ⟨by (refine de1_none ?_; intro e he; simp at he), ?_⟩)
      (u_in rl hF; rw [stepG_inLoop]; simp only [goes_go]; refine ⟨by (refine de1_none ?_; intro e he; simp at he), ?_⟩)
      refine Goes.stop fun w₁ h₁ => ?_
      have hx := ih (j + 1) (by omega) Rm' w₁
      simp only [ls, ls7, Try.f81] at hx
      exact hx _ _ _ _ _ _ _ _ (rl hF h₁).1 (rl hF h₁).2
end
end Go.Proofs.Ytmmolicodlmlkaa.Ph
namespace Go.Proofs.Ytmmolicodlmlkaa.Ph
open Go.Conc Go.ConcN Go.RowKit Go.Conc.Lib Go.ConcR.Gen Go.ConcN.Gen
open Go.ConcR (KK wgBlock WgAt stA smA rd wr mk DC0 Payload)
open Go.Proofs.Ytmmolicodlmlkaa.Rel (RS DS EvS Tr Sub GoT Go1)
set_option linter.unusedVariables false
set_option linter.unusedSimpArgs false

section
variable {P : Program} {S : Nat → Prop} {Stop : (Nat → Prop) → Goroutine → World → Prop} {g : Goroutine} {w : World} {n : Nat} {es : Array Event}
abbrev No : Nat → Prop := fun _ => False
abbrev GL (P : Program) (Stop : (Nat → Prop) → Goroutine → World → Prop) : (Nat → Prop) → Goroutine → World → Prop := Go1 P true (RS No) (DS No) Stop
theorem ds_same {a b : World} (h : DE1 No S a b es) : DS No S a b es S := by
  obtain ⟨rfl, h⟩ := h
  exact ⟨rfl, rfl, rfl, Nat.le_refl _, fun b => ⟨.inl, fun h => h.elim id fun h => by omega⟩, fun _ _ _ => rfl, h⟩
theorem gl_go (h : Goes P true (RS No S) (DE1 No S) (fun g w => GL P Stop S g w) n g w) : GL P Stop S g w :=
  Go1.bind (fun _ a => RS.refl a) (Go1.of_goes (Stop := fun S g w => GL P Stop S g w) (fun _ _ h => h) (fun _ _ _ h => ds_same h) (fun _ _ h => h) h) fun _ _ _ h => h
theorem ds_alloc {o : Obj} (h : ∀ e ∈ es, EvS No (fun b => S b ∨ b = w.heap.size) e) : DS No S w (w.alloc o) es (fun b => S b ∨ b = w.heap.size) := by
  have hs : (w.alloc o).heap.size = w.heap.size + 1 := Array.size_push _
  exact ⟨rfl, rfl, rfl, by omega, fun b => ⟨fun h => h.imp id fun h => by omega, fun h => h.imp id fun h => by omega⟩, fun b hb _ => heap_alloc_old w o b hb, h⟩
theorem ds_store2 {a a' : Addr} {v v' : Value} (hS : S a.block) (hS' : S a'.block) (h : ∀ e ∈ es, EvS No S e) : DS No S w ((w.setCell a v).setCell a' v') es S := by
  have hs : ((w.setCell a v).setCell a' v').heap.size = w.heap.size := by simp [World.setCell]
  exact ⟨rfl, rfl, rfl, by omega, fun b => ⟨.inl, fun h => h.elim id fun h => by omega⟩, fun b hb hn => (heap_setCell_other _ a' b v' fun e => hn (e ▸ hS')).trans (heap_setCell_other w a b v fun e => hn (e ▸ hS)), h⟩
end
/-- What it has made. -/
structure LK (own : List (Nat × Array Value × TypeId)) (S0 : Nat → Prop) (w0 : World) (S : Nat → Prop) (w : World) : Prop where
  size : w0.heap.size ≤ w.heap.size
  own : ∀ p ∈ own, S p.1 ∧ w0.heap.size ≤ p.1 ∧ w.heap[p.1]? = some (.cells p.2.1 p.2.2)
  sub : ∀ b, S0 b → S b
  s0 : ∀ b, S0 b → b < w0.heap.size
  low : ∀ b, S b → b < w.heap.size
  new : ∀ b, S b → S0 b ∨ w0.heap.size ≤ b
  old : ∀ b, S0 b → w.heap[b]? = w0.heap[b]?
  tape : w.tape = w0.tape
  os : w.os = w0.os
  output : w.output = w0.output
section
variable {own : List (Nat × Array Value × TypeId)} {S0 S : Nat → Prop} {w0 w w₁ : World}
theorem LK.refl (h : ∀ b, S0 b → b < w0.heap.size) : LK [] S0 w0 S0 w0 := ⟨Nat.le_refl _, by simp, fun _ h => h, h, h, fun _ h => .inl h, fun _ _ => rfl, rfl, rfl, rfl⟩
theorem LK.rely (h : LK own S0 w0 S w) (r : RS No S w w₁) : LK own S0 w0 S w₁ :=
  ⟨Nat.le_trans h.size r.size, fun p hp => ⟨(h.own p hp).1, (h.own p hp).2.1, (r.own _ (h.own p hp).1).trans (h.own p hp).2.2⟩, h.sub, h.s0, fun b hb => Nat.lt_of_lt_of_le (h.low b hb) r.size, h.new, fun b hb => (r.own b (h.sub b hb)).trans (h.old b hb), r.tape.trans h.tape, r.os.trans h.os, r.output.trans h.output⟩
theorem LK.alloc (h : LK own S0 w0 S w) (c : Array Value) (t : TypeId) : LK ((w.heap.size, c, t) :: own) S0 w0 (fun b => S b ∨ b = w.heap.size) (w.alloc (.cells c t)) := by
  have old : ∀ b, b < w.heap.size → (w.alloc (.cells c t)).heap[b]? = w.heap[b]? := fun b hb => heap_alloc_old w _ b hb
  have hs : (w.alloc (.cells c t)).heap.size = w.heap.size + 1 := Array.size_push _
  have := h.size
  refine ⟨by omega, fun p hp => ?_, fun b hb => .inl (h.sub b hb), h.s0, fun b hb => ?_, fun b hb => ?_, fun b hb => (old b (h.low b (h.sub b hb))).trans (h.old b hb), h.tape, h.os, h.output⟩
  · rcases List.mem_cons.1 hp with rfl | hp
    · exact ⟨.inr rfl, h.size, heap_alloc_new w _⟩
    · exact ⟨.inl (h.own p hp).1, (h.own p hp).2.1, (old _ (h.low _ (h.own p hp).1)).trans (h.own p hp).2.2⟩
  · rcases hb with hb | rfl
    · have := h.low b hb; omega
    · omega
  · rcases hb with hb | rfl
    · exact h.new b hb
    · exact .inr h.size
theorem LK.set {b i : Nat} {c : Array Value} {t : TypeId} (h : LK ((b, c, t) :: own) S0 w0 S w) (hd : ∀ p ∈ own, p.1 ≠ b) (v : Value) : LK ((b, c.setIfInBounds i v, t) :: own) S0 w0 S (w.setCell ⟨b, i, none⟩ v) := by
  obtain ⟨h1, h2, h3⟩ := h.own (b, c, t) (by simp)
  simp only at h1 h2 h3
  have old : ∀ x, x ≠ b → (w.setCell ⟨b, i, none⟩ v).heap[x]? = w.heap[x]? := fun x hx => heap_setCell_other w _ x v hx
  have hs : (w.setCell ⟨b, i, none⟩ v).heap.size = w.heap.size := by simp [World.setCell]
  refine ⟨by rw [hs]; exact h.size, fun p hp => ?_, h.sub, h.s0, fun x hx => by rw [hs]; exact h.low x hx, h.new, fun x hx => ?_, h.tape, h.os, h.output⟩
  · rcases List.mem_cons.1 hp with rfl | hp
    · exact ⟨h1, h2, heap_setCell_same w b i c t v h3⟩
    · obtain ⟨q1, q2, q3⟩ := h.own p (List.mem_cons_of_mem _ hp)
      exact ⟨q1, q2, (old _ (hd p hp)).trans q3⟩
  · have := h.s0 x hx
    exact (old x (by omega)).trans (h.old x hx)
theorem LK.at {d : Nat} (h : LK own S0 w0 S (w.at d)) : LK own S0 w0 S w := ⟨h.size, h.own, h.sub, h.s0, h.low, h.new, h.old, h.tape, h.os, h.output⟩
theorem LK.cell (h : LK own S0 w0 S w) {b : Nat} {c : Array Value} {t : TypeId} (hp : (b, c, t) ∈ own) (i : Nat) : w.cell? ⟨b, i, none⟩ = c[i]? := by
  have := (h.own _ hp).2.2
  simp only at this
  simp [World.cell?, this]
end
theorem run_build_wg (w : World) : (Instr.build 124 #[]).run Try.prog w = .ok (.agg #[.int .u64 0, .int .u32 0]) w := by kernel_rfl
theorem ev_build_wg (w : World) : (Instr.build 124 #[]).events Try.prog w #[] = #[] := by kernel_rfl
set_option maxRecDepth 100000 in
set_option maxHeartbeats 4000000 in
/-- To the loop's head. -/
theorem shared_prefix {S0 : Nat → Prop} {w0 : World} (h0 : ∀ b, S0 b → b < w0.heap.size) (n k : Nat) (fd : FuncId) (capd : Array Value) (cs : List Frame) :
    GL Try.prog (fun S g w => ∃ bn bk bd Wg v7 v8 v11 v12 v13 v14 v15 v16, g = G ((base 81).at ⟨#[.int .i64 n, .int .i64 k, .func (.func fd) #[] capd, ptr bn, ptr bk, ptr bd, ptr Wg, v7, v8, .int .i64 k, .int .i64 (0 : Nat), v11, v12, v13, v14, v15, v16], []⟩ [.code ls, .inLoop ls, .inBlock 0, .code ls7]) cs ∧
      LK [(Wg, #[.int .u64 0, .int .u32 0], 124), (bd, #[.func (.func fd) #[] capd], 90), (bk, #[.int .i64 k], 2), (bn, #[.int .i64 n], 3)] S0 w0 S w) S0 (G (Frame.enter Try.prog 81 #[.int .i64 n, .int .i64 k, .func (.func fd) #[] capd] .normal) cs) w0 := by
  rw [enter_at _ Try.func81 rfl]
  have hF := LK.refl h0
  have rl : ∀ {own : List (Nat × Array Value × TypeId)} {S : Nat → Prop} {a b : World}, LK own S0 w0 S a → RS No S a b → LK own S0 w0 S b := fun h r => h.rely r
  refine gl_go (n := 40) ?_
  walk_nrmf Try.f81
  (u_in rl hF; rw [stepG_seq]; simp only [goes_go]; refine ⟨by (refine de1_none ?_; intro e he; simp at he), ?_⟩)
  (u_in rl hF; rw [stepG_region]; simp only [goes_go, List.size_toArray, List.length_cons, List.length_nil, Nat.reduceAdd, Nat.zero_add, List.range, List.range.loop]; refine ⟨by (refine de1_none ?_; intro e he; simp at he), ?_⟩)
  refine Goes.stop fun w₁ h₁ => ?_
  replace hF := rl hF h₁
  clear h₁
  have alloc1 : True := trivial
  refine go1_op rfl rfl (by k_ne) (fun w₂ h₂ K hK => ?_)
  replace hF := rl hF h₂
  clear h₂
  go_simp
  refine hK _ _ ⟨_, ds_alloc (fun e he => ?_), ?_⟩
  · have hm := mem_listed he
    simp [go_sem, storedEv, *] at hm
  clear hK K
  replace hF := hF.alloc #[.int .i64 n] 3
  generalize w₂.heap.size = bn at hF ⊢
  generalize w₂.alloc _ = w₃ at hF ⊢
  refine go1_op rfl rfl (by k_ne) (fun w₂ h₂ K hK => ?_)
  replace hF := rl hF h₂
  clear h₂
  go_simp
  refine hK _ _ ⟨_, ds_alloc (fun e he => ?_), ?_⟩
  · have hm := mem_listed he
    simp [go_sem, storedEv, *] at hm
  clear hK K
  replace hF := hF.alloc #[.int .i64 k] 2
  generalize w₂.heap.size = bk at hF ⊢
  generalize w₂.alloc _ = w₃ at hF ⊢
  refine go1_op rfl rfl (by k_ne) (fun w₂ h₂ K hK => ?_)
  replace hF := rl hF h₂
  clear h₂
  go_simp
  refine hK _ _ ⟨_, ds_alloc (fun e he => ?_), ?_⟩
  · have hm := mem_listed he
    simp [go_sem, storedEv, *] at hm
  clear hK K
  replace hF := hF.alloc #[.func (.func fd) #[] capd] 90
  generalize w₂.heap.size = bd at hF ⊢
  generalize w₂.alloc _ = w₃ at hF ⊢
  refine gl_go (n := 40) ?_
  (u_in rl hF; rw [stepG_region_end]; simp only [goes_go]; refine ⟨by (refine de1_none ?_; intro e he; simp at he), ?_⟩)
  (u_in rl hF; rw [stepG_seq]; simp only [goes_go]; refine ⟨by (refine de1_none ?_; intro e he; simp at he), ?_⟩)
  (u_in rl hF; rw [stepG_region]; simp only [goes_go, List.size_toArray, List.length_cons, List.length_nil, Nat.reduceAdd, Nat.zero_add, List.range, List.range.loop]; refine ⟨by (refine de1_none ?_; intro e he; simp at he), ?_⟩)
  have hbr := run_build_wg
  have hbe := ev_build_wg
  u_in rl hF
  refine goes_oper_k rfl rfl (by k_ne) (fun K hK => ?_)
  go_simp
  refine hK _ _ ⟨?_, ?_⟩
  · refine de1_none ?_
    intro e he
    have hm := mem_listed he
    simp [go_sem, *] at hm
  clear hK K
  try w_num
  clear hbr hbe
  refine Goes.stop fun w₁ h₁ => ?_
  replace hF := rl hF h₁
  clear h₁
  refine go1_op rfl rfl (by k_ne) (fun w₂ h₂ K hK => ?_)
  replace hF := rl hF h₂
  clear h₂
  go_simp
  refine hK _ _ ⟨_, ds_alloc (fun e he => ?_), ?_⟩
  · have hm := mem_listed he
    simp [go_sem, storedEv, *] at hm
  clear hK K
  have hne : w₂.heap.size ≠ bn ∧ w₂.heap.size ≠ bk ∧ w₂.heap.size ≠ bd := by
    have h1 := hF.low bn (.inl (.inl (.inr rfl)))
    have h2 := hF.low bk (.inl (.inr rfl))
    have h3 := hF.low bd (.inr rfl)
    omega
  replace hF := hF.alloc #[.int .u64 0, .int .u32 0] 124
  generalize w₂.heap.size = Wg at hF hne ⊢
  generalize w₂.alloc _ = w₃ at hF ⊢
  refine go1_op rfl rfl (by k_ne) (fun w₂ h₂ K hK => ?_)
  replace hF := rl hF h₂
  clear h₂
  have hb1 := (hF.own (Wg, #[.int .u64 0, .int .u32 0], 124) (by simp)).2.2
  have hc0 := hF.cell (b := Wg) (c := #[.int .u64 0, .int .u32 0]) (t := 124) (by simp) 0
  have hc1 := hF.cell (b := Wg) (c := #[.int .u64 0, .int .u32 0]) (t := 124) (by simp) 1
  simp at hb1 hc0 hc1
  have hfz0 : w₂.frozen? ⟨Wg, 0, none⟩ = false := by simp [World.frozen?, hb1]
  have hfz1 : w₂.frozen? ⟨Wg, 1, none⟩ = false := by simp [World.frozen?, hb1]
  go_simp
  refine hK _ _ ⟨_, ds_store2 (S := fun b => (((S0 b ∨ b = bn) ∨ b = bk) ∨ b = bd) ∨ b = Wg) (a := ⟨Wg, 0, none⟩) (a' := ⟨Wg, 1, none⟩) (.inr rfl) (.inr rfl) (fun e he => ?_), ?_⟩
  · have hm := mem_listed he
    simp [go_sem, storedEv, *] at hm
    rcases hm with rfl | rfl <;> exact .inl ⟨_, rfl, .inl (.inr rfl), rfl⟩
  clear hK K hb1 hc0 hc1 hfz0 hfz1
  have hd : ∀ p ∈ [(bd, #[Value.func (.func fd) #[] capd], 90), (bk, #[.int .i64 k], 2), (bn, #[.int .i64 n], 3)], p.1 ≠ Wg := by
    intro p hp
    simp at hp
    rcases hp with rfl | rfl | rfl <;> (simp only; omega)
  replace hF := (hF.set (i := 0) hd (.int .u64 0)).set (i := 1) hd (.int .u32 0)
  simp only [List.setIfInBounds_toArray, List.set_cons_zero, List.set_cons_succ] at hF
  generalize (w₂.setCell ⟨Wg, 0, none⟩ (.int .u64 0)).setCell ⟨Wg, 1, none⟩ (.int .u32 0) = w₃ at hF ⊢
  refine gl_go (n := 40) ?_
  (u_in rl hF; rw [stepG_region_end]; simp only [goes_go]; refine ⟨by (refine de1_none ?_; intro e he; simp at he), ?_⟩)
  (u_in rl hF; rw [stepG_seq]; simp only [goes_go]; refine ⟨by (refine de1_none ?_; intro e he; simp at he), ?_⟩)
  (u_in rl hF; rw [stepG_seq]; simp only [goes_go]; refine ⟨by (refine de1_none ?_; intro e he; simp at he), ?_⟩)
  (u_in rl hF; rw [stepG_region]; simp only [goes_go, List.size_toArray, List.length_cons, List.length_nil, Nat.reduceAdd, Nat.zero_add, List.range, List.range.loop]; refine ⟨by (refine de1_none ?_; intro e he; simp at he), ?_⟩)
  g_opw rl hF [(hF.cell (b := bk) (c := #[.int .i64 k]) (t := 2) (by simp) 0).trans rfl] rfl (.inl ⟨_, rfl, .inl (.inl (.inl (.inr rfl))), rfl⟩)
  u_in rl hF
  refine goes_oper_k rfl rfl (by k_ne) (fun K hK => ?_)
  go_simp
  refine hK _ _ ⟨?_, ?_⟩
  · refine de1_none ?_
    intro e he
    have hm := mem_listed he
    simp [go_sem, *] at hm
  clear hK K
  try w_num
  (u_in rl hF; rw [stepG_region_end]; simp only [goes_go]; refine ⟨by (refine de1_none ?_; intro e he; simp at he), ?_⟩)
  (u_in rl hF; rw [stepG_block]; simp only [goes_go]; refine ⟨by (refine de1_none ?_; intro e he; simp at he), ?_⟩)
  (u_in rl hF; rw [stepG_loop]; simp only [goes_go]; refine ⟨by (refine de1_none ?_; intro e he; simp at he), ?_⟩)
  exact Goes.stop fun w₁ h₁ => Go1.stop fun w₂ h₂ => ⟨bn, bk, bd, Wg, _, _, _, _, _, _, _, _, rfl, rl (rl hF h₁) h₂⟩
theorem goes_keep' {P : Program} {main : Bool} {R R' : World → World → Prop} {Stop : Goroutine → World → Prop} {I : World → Prop} (hR : ∀ a b, R' a b → R a b) (hI : ∀ a b, R' a b → I a → I b) : ∀ {n : Nat} {g : Goroutine} {w : World}, I w → Goes P main R DC0 Stop n g w → Goes P main R' DC0 (fun g w => I w ∧ Stop g w) n g w
  | 0, g, w, hi, h => fun w₁ h₁ => ⟨hI _ _ h₁ hi, h w₁ (hR _ _ h₁)⟩
  | n + 1, g, w, hi, h => by
    rcases h with h | ⟨hs, h⟩
    · exact .inl fun w₁ h₁ => ⟨hI _ _ h₁ hi, h w₁ (hR _ _ h₁)⟩
    · refine .inr ⟨hs, fun w₁ h₁ => ?_⟩
      have h2 := h w₁ (hR _ _ h₁)
      cases hg : stepG P main g w₁ with
      | go g' w' es =>
        rw [hg] at h2
        refine ⟨h2.1, goes_keep' hR hI ?_ h2.2⟩
        rw [h2.1.1]
        exact hI _ _ h₁ hi
      | _ => rw [hg] at h2; exact h2.elim
theorem put_defers (a : Act) (d : Option Tmp) (v : Value) : (a.put d v).defers = a.defers := by cases d <;> rfl
theorem run_trans {P : Program} {m m' m'' : Machine} {t t' t'' : Trace} {N K : Nat} (h : runNT P N m t = (.next m', t')) (hk : runNT P K m' t' = (.next m'', t'')) : runNT P (N + K) m t = (.next m'', t'') := by rw [runNT_add, h]; exact hk
/-- Goroutine 0 may touch it. -/
def FreeB (Shun : Loc → Prop) (w : World) (b : Nat) : Prop := b < w.heap.size ∧ ∀ l, inBl (fun x => x = b) l → ¬ Shun l
theorem FreeB.free {Shun : Loc → Prop} {w : World} (hs : ∀ l, Shun l → l.isMemory = true ∧ l.low w.heap.size) : Free Shun (FreeB Shun w) w := by
  refine ⟨fun l hl => ?_, fun b hb => hb.1, hs⟩
  cases l with
  | cell a => exact hl.2 (.cell a) rfl
  | obj r => exact hl.2 (.obj r) rfl
  | output => exact hl.elim
  | goroutines => exact hl.elim
  | mark m => exact hl.elim
/-- What stands, from the call of sharedWork on: all that goroutine 0 may touch but the block that is written; that one stays one. -/
def U0 (Shun : Loc → Prop) (C : Nat) (w0 : World) (w : World) : Prop :=
  (w.tape = w0.tape ∧ w.os = w0.os ∧ w.output = w0.output) ∧ (∀ x, FreeB Shun w0 x → x ≠ C → w.heap[x]? = w0.heap[x]?) ∧ OutStay C (fun _ => False) w0 w
/-- Goroutine 0's state, and the rest of the machine. -/
structure At (P : Program) (Shun : Loc → Prop) (g : Goroutine) (w : World) (m : Machine) (t : Trace) : Prop where
  ex : ∃ gs sl q, m = crowd gs w sl ∧ gs[0]? = some g ∧ Lone P Shun gs w t q
  shun : ∀ l, Shun l → l.isMemory = true ∧ l.low w.heap.size
/-- A walk of goroutine 0's, at the machine. -/
theorem At.walk {P : Program} {Shun : Loc → Prop} {g : Goroutine} {w : World} {m : Machine} {t : Trace} {Stop : (Nat → Prop) → Goroutine → World → Prop} (h : At P Shun g w m t) (hSt : ∀ S g w d, Stop S g (w.at d) → Stop S g w) (hG : GL P Stop (FreeB Shun w) g w) :
    ∃ K m' t' g' w' S', runNT P K m t = (.next m', t') ∧ At P Shun g' w' m' t' ∧ Stop S' g' w' ∧ (∀ b, S' b → FreeB Shun w' b) ∧ ∀ ad : Addr, w.heap.size ≤ ad.block → NoRelease ad t' := by
  obtain ⟨⟨gs, sl, q, rfl, h0, hL⟩, hs⟩ := h
  obtain ⟨T, hG⟩ := hG
  obtain ⟨N, gs', a', w', sl', t', q', S', e1, e2, e3, e4, e5, e6, e7⟩ := Ph.walk (B0 := w.heap.size) hSt T _ _ gs g w sl t q (Nat.le_refl _) h0 hL (FreeB.free hs) (fun ad hb => norel_low hL.past.seen hb) hG
  refine ⟨N, _, t', a', w', S', e1, ⟨⟨gs', sl', q', rfl, e3, e5⟩, e6.shun⟩, e4, fun b hb => ⟨e6.low b hb, fun l hl hsl => ?_⟩, e7⟩
  refine e6.free l ?_ hsl
  cases l with
  | cell a => have : a.block = b := hl; subst this; exact hb
  | obj r => have : r = b := hl; subst this; exact hb
  | output => exact hl.elim
  | goroutines => exact hl.elim
  | mark m => exact hl.elim
section
variable {C n k : Nat} {fd : FuncId} {capd : Array Value} {mine : Nat → Nat → Prop} {J : Nat → Nat → (Nat → Prop) → World → Prop} {Fact : Nat → (Nat → Prop) → World → Prop}
  {b₀ : Frame} {a₀ : Act} {ops₀ : Array Oper} {i₀ : Nat} {rest₀ : List Nat} {k₀ : List Item} {cs : List Frame} {Shun : Loc → Prop} {w : World} {m : Machine} {t : Trace}
/-- ████ sharedWork, CALLED AND COME BACK. ████ -/
theorem shared_machine (h : At Try.prog Shun (G (Frame.enter Try.prog 81 #[.int .i64 n, .int .i64 k, .func (.func fd) #[] capd] .normal) (b₀.at a₀ (.inRegion ops₀ (i₀ :: rest₀) :: k₀) :: cs)) w m t)
    (hC : FreeB Shun w C) (hm : ∀ i k o, mine i o → mine k o → i = k)
    (hlo : ∀ i S w', Fact i S w' → ∀ b, S b → w.heap.size ≤ b)
    (T : ∀ Wg bn bk bd, w.heap.size ≤ Wg → Task Wg C bn bk bd n k fd capd (fun b => FreeB Shun w b ∧ b ≠ C) mine (U0 Shun C w) J Fact) :
    ∃ K m' t' w' Wg, ∃ Sg : Nat → Nat → Prop, runNT Try.prog K m t = (.next m', t') ∧ At Try.prog (fun l => Shun l ∨ ShN Wg l) (G (b₀.at (a₀.put ((ops₀[i₀]?).bind (·.dst)) (.tuple #[])) (.inRegion ops₀ rest₀ :: k₀)) cs) w' m' t' ∧ w.heap.size ≤ Wg ∧ U0 Shun C w w' ∧ w.heap.size ≤ w'.heap.size ∧
      (∀ i, i < k → Fact i (Sg i) w') ∧ (∀ i b, i < k → Sg i b → w.heap.size ≤ b ∧ b < w'.heap.size ∧ b ≠ Wg ∧ b ≠ C) ∧ (∀ i j b, i < k → j < k → Sg i b → Sg j b → i = j) := by
  have hs := h.shun
  have hfr := FreeB.free (w := w) hs
  obtain ⟨K1, m1, t1, g1, w1, S1, r1, hAt1, ⟨bn, bk, bd, Wg, v7, v8, v11, v12, v13, v14, v15, v16, rfl, hF⟩, hfree, hno⟩ := h.walk (fun S g w d ⟨bn, bk, bd, Wg, v7, v8, v11, v12, v13, v14, v15, v16, e, hF⟩ => ⟨bn, bk, bd, Wg, v7, v8, v11, v12, v13, v14, v15, v16, e, hF.at⟩) (shared_prefix (fun b hb => hb.1) n k fd capd _)
  obtain ⟨hWS, hWlo, hWh⟩ := hF.own (Wg, #[.int .u64 0, .int .u32 0], 124) (by simp)
  obtain ⟨hdS, hdlo, hdh⟩ := hF.own (bd, #[.func (.func fd) #[] capd], 90) (by simp)
  obtain ⟨hkS, hklo, hkh⟩ := hF.own (bk, #[.int .i64 k], 2) (by simp)
  obtain ⟨hnS, hnlo, hnh⟩ := hF.own (bn, #[.int .i64 n], 3) (by simp)
  simp only at hWS hWlo hWh hdS hdlo hdh hkS hklo hkh hnS hnlo hnh
  have dW : bd ≠ Wg := fun e => by rw [e, hWh] at hdh; simp at hdh
  have kW : bk ≠ Wg := fun e => by rw [e, hWh] at hkh; simp at hkh
  have nW : bn ≠ Wg := fun e => by rw [e, hWh] at hnh; simp at hnh
  have T' := T Wg bn bk bd hWlo
  have hCl := hC.1
  have hCS : S1 C := hF.sub C hC
  have hWg1 := hF.low Wg hWS
  have hC1 := hF.low C hCS
  obtain ⟨⟨gs, sl, q, rfl, h0, hL⟩, hs1⟩ := hAt1
  have hsk : SK Wg C bn bk bd n k fd capd (fun b => FreeB Shun w b ∧ b ≠ C) (U0 Shun C w) [] (fun b => S1 b ∧ b ≠ Wg ∧ b ≠ C) No w1 :=
    ⟨⟨hWg1, id⟩, ⟨hC1, id⟩, by omega, fun b hb => ⟨hF.low b hb.1, hb.2.2, hb.2.1, id⟩, fun b hb => hb.elim, fun b hb => ⟨hF.sub b hb.1, by have := hb.1.1; omega, hb.2⟩, ⟨hnS, nW, by omega⟩, ⟨hkS, kW, by omega⟩, ⟨hdS, dW, by omega⟩,
      (hF.cell (c := #[.int .i64 n]) (t := 3) (by simp) 0).trans rfl, (hF.cell (c := #[.int .i64 k]) (t := 2) (by simp) 0).trans rfl, (hF.cell (c := #[.func (.func fd) #[] capd]) (t := 90) (by simp) 0).trans rfl,
      ⟨⟨hF.tape, hF.os, hF.output⟩, fun x hx _ => hF.old x hx, .of_block (hF.old C hC)⟩, by simp⟩
  have hlv : WgLive link.tWg Wg w1 := ⟨0, 0, hWh⟩
  have inS : ∀ {S : Nat → Prop} {l : Loc}, (∀ b, S b → S1 b) → inBl S l → ¬ Shun l := by
    intro S l hsub hl
    cases l with
    | cell a => exact (hfree a.block (hsub _ hl)).2 (.cell a) rfl
    | obj r => exact (hfree r (hsub _ hl)).2 (.obj r) rfl
    | output => exact hl.elim
    | goroutines => exact hl.elim
    | mark m => exact hl.elim
  have geo : Geo Wg C 0 (fun _ _ => False) (fun _ _ => False) No (fun b => S1 b ∧ b ≠ Wg ∧ b ≠ C) w1 :=
    ⟨hWg1, hC1, by omega, fun i hi => by omega, fun b hb => hb.elim, fun b hb => ⟨hF.low b hb.1, hb.2.1, hb.2.2⟩, fun i hi => by omega, fun i k b hi => by omega, fun i b hi => by omega, fun i b hi => by omega, fun b hb => hb.elim⟩
  obtain ⟨K2, m2, t2, r2, ⟨gs2, w2, sl2, a2, q2, Sg, Rg, Sm2, Rm2, rfl, hsz2, h02, hL2, hP2, hborn2, ⟨⟨aa, ops, hdef, haft⟩, hsf, hlv2⟩, geo2, hfact, _⟩⟩ :=
    phase (P := Try.prog) (ty := link.tWg) (Wg := Wg) (C := C) (mine := mine) (Fact := Fact) (n := k) (Nx := NxS Wg C bn bk bd n k fd capd (fun b => FreeB Shun w b ∧ b ≠ C) (U0 Shun C w) (b₀.at a₀ (.inRegion ops₀ (i₀ :: rest₀) :: k₀) :: cs)) (Anch := AnchS Wg C bn bk bd n k fd capd (fun b => FreeB Shun w b ∧ b ≠ C) (U0 Shun C w) (b₀.at a₀ (.inRegion ops₀ (i₀ :: rest₀) :: k₀) :: cs)) (sl := sl)
      (fun Rm S g w ⟨a, ops, i, _, T, hg, _⟩ => by rw [hg]; rfl) (fun i Rd S a b r => T'.hF i S a b r.own r.out) hm (by have := T'.hk; omega)
      (fun Rm S g w ⟨a, ops, i, hdf, hA⟩ => waitRound wgLib (fun a b r h => SK.rely T' h r) (fun a b r h => SK.aside T' h r) (fun g w h => ⟨_, _, _, hdf, h⟩) (fun g w haf hf hl => ⟨⟨_, _, (put_defers _ _ _).trans hdf, haf⟩, hf, hl⟩) g w hA)
      h0 hL (hno _ hWlo) (fun l hl hsl => (hfree Wg hWS).2 l (by obtain ⟨a, rfl, e⟩ := hl; exact e) hsl) (fun l hl => by cases l <;> exact hl.elim) (fun l hl => inS (fun b hb => hb.1) hl) (fun i o _ => hC.2 (.cell ⟨C, o, none⟩) rfl) geo hWh
      (starter T' k 0 (by omega) _ w1 _ _ _ _ _ _ _ _ hsk hlv)
  have hgW := geo2.hW
  have hgC := geo2.hC
  have hs2 : ∀ l, (Shun l ∨ ShN Wg l) → l.isMemory = true ∧ l.low w2.heap.size := by
    rintro l (hl | ⟨a, rfl, e⟩)
    · exact ⟨(hs l hl).1, Loc.low_mono (by omega) (hs l hl).2⟩
    · exact ⟨rfl, by show a.block < _; omega⟩
  have free2 : ∀ b, b < w2.heap.size → b ≠ Wg → (b < w.heap.size → FreeB Shun w b) → FreeB (fun l => Shun l ∨ ShN Wg l) w2 b := by
    intro b hb hne ho
    refine ⟨hb, fun l hl hsl => ?_⟩
    rcases hsl with hsl | ⟨a, rfl, e⟩
    · have hlow := (hs l hsl).2
      cases l with
      | cell a =>
        have e : a.block = b := hl
        have hlow : a.block < w.heap.size := hlow
        exact (ho (by omega)).2 (.cell a) e hsl
      | obj r =>
        have e : r = b := hl
        have hlow : r < w.heap.size := hlow
        exact (ho (by omega)).2 (.obj r) e hsl
      | output => exact hl.elim
      | goroutines => exact hl.elim
      | mark m => exact hl.elim
    · have e2 : a.block = b := hl
      exact hne (e2.symm.trans e)
  obtain ⟨mT, haft⟩ := haft
  have hLK : LK [] (FreeB (fun l => Shun l ∨ ShN Wg l) w2) w2 (FreeB (fun l => Shun l ∨ ShN Wg l) w2) w2 := LK.refl fun b hb => hb.1
  have hG : GL Try.prog (fun S g w => g = G (b₀.at (a₀.put ((ops₀[i₀]?).bind (·.dst)) (.tuple #[])) (.inRegion ops₀ rest₀ :: k₀)) cs ∧ LK [] (FreeB (fun l => Shun l ∨ ShN Wg l) w2) w2 S w) (FreeB (fun l => Shun l ∨ ShN Wg l) w2) a2 w2 := by
    refine Go1.bind (fun _ a => RS.refl a) (Go1.of_goes (Stop := fun S g w => LK [] (FreeB (fun l => Shun l ∨ ShN Wg l) w2) w2 S w ∧ g = G ((base 81).at aa [.inRegion ops []]) (b₀.at a₀ (.inRegion ops₀ (i₀ :: rest₀) :: k₀) :: cs)) (fun _ _ h => h) (fun a b es h => ds_same ⟨h.1, by rw [h.2]; simp⟩) (fun _ _ h => h)
      (goes_keep' (R' := RS No _) (fun _ _ _ => trivial) (fun a b r h => LK.rely h r) hLK (haft w2))) ?_
    rintro S g w ⟨hF, rfl⟩
    have rl : ∀ {a b : World}, LK [] (FreeB (fun l => Shun l ∨ ShN Wg l) w2) w2 S a → RS No S a b → LK [] (FreeB (fun l => Shun l ∨ ShN Wg l) w2) w2 S b := fun h r => h.rely r
    refine gl_go (n := 3) ?_
    (u_in rl hF; rw [stepG_region_end]; simp only [goes_go]; refine ⟨by (refine de1_none ?_; intro e he; simp at he), ?_⟩)
    (u_in rl hF; rw [stepG_end]; simp only [goes_go]; refine ⟨by (refine de1_none ?_; intro e he; simp at he), ?_⟩)
    u_in rl hF
    refine goes_leave0 rfl hdef Try.func81 rfl ⟨by (refine de1_none ?_; intro e he; simp at he), ?_⟩
    exact Goes.stop fun w₁ h₁ => Go1.stop fun w₂ h₂ => ⟨rfl, rl (rl hF h₁) h₂⟩
  obtain ⟨K3, m3, t3, g3, w3, S3, r3, hAt3, ⟨rfl, hF3⟩, _, _⟩ := At.walk (⟨⟨gs2, sl2, q2, rfl, h02, ⟨hL2, hP2, hborn2⟩⟩, hs2⟩ : At Try.prog (fun l => Shun l ∨ ShN Wg l) a2 w2 (crowd gs2 w2 sl2) t2) (fun S g w d ⟨e, hF⟩ => ⟨e, hF.at⟩) hG
  have hCf : FreeB (fun l => Shun l ∨ ShN Wg l) w2 C := free2 C hgC (by omega) fun _ => hC
  have hu := hsf.u
  refine ⟨K1 + (K2 + K3), m3, t3, w3, Wg, Sg, run_trans r1 (run_trans r2 r3), hAt3, hWlo, ⟨⟨hF3.tape.trans hu.1.1, hF3.os.trans hu.1.2.1, hF3.output.trans hu.1.2.2⟩, fun x hx hxC => (hF3.old x (free2 x (by have := hx.1; omega) (by have := hx.1; omega) fun _ => hx)).trans (hu.2.1 x hx hxC), hu.2.2.trans (.of_block (hF3.old C hCf))⟩,
    by have := hF3.size; omega, fun i hi => ?_, fun i b hi hb => ?_, fun i j b hi hj h1 h2 => geo2.d1 i j b hi hj h1 h2⟩
  · refine T'.hF i _ w2 w3 (fun b hb => ?_) (.of_block (hF3.old C hCf)) (hfact i hi)
    obtain ⟨q1, q2, q3⟩ := geo2.sg i hi b hb
    exact hF3.old b (free2 b q1 q2 fun hlt => by have := hlo i _ _ (hfact i hi) b hb; omega)
  · obtain ⟨q1, q2, q3⟩ := geo2.sg i hi b hb
    exact ⟨hlo i _ _ (hfact i hi) b hb, by have := hF3.size; omega, q2, q3⟩
end
end Go.Proofs.Ytmmolicodlmlkaa.Ph
