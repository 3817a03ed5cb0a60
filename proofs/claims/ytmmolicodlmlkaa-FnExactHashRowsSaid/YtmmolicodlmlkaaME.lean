/-
  Parts of the proof: A worker's sync.WaitGroup.Done, in company. PRINTED BY gen_wg.py. Steps of a goroutine that a go statement begins: its own first frame, deferred calls of closures, recover where nothing panics, calls of closures. A worker of sharedWork, from its beginning to its release. A worker of sharedWork: its loop, its beginning. The starter's Add(1) of sync.WaitGroup, in company. PRINTED BY gen_wg.py. The starter's Wait of sync.WaitGroup, in company. PRINTED BY gen_wg.py. The starter of sharedWork, in company: its steps that make memory; what it knows. The starter of sharedWork: its loop, and into Wait. No condition.
-/
import Derived.Conc.WgGenN3
import Derived.Conc.WgWords
import Derived.Test.YtmmolicodlmlkaaMD
import Derived.Test.YtmmolicodlmlkaaMC
set_option linter.unusedVariables false
set_option linter.unusedSimpArgs false
namespace Go.Proofs.Ytmmolicodlmlkaa.Ph
open Go.Conc Go.ConcN Go.RowKit Go.Conc.Lib Go.ConcR.Gen Go.ConcN.Gen
open Go.ConcR (KK wgBlock WgAt stA smA rd wr mk DC0 Payload)
open Go.Proofs.Ytmmolicodlmlkaa.Rel (RS DS EvS Tr Sub GoT Go1)
set_option linter.unusedVariables false
set_option linter.unusedSimpArgs false

section
variable {L : WgLink} {P : Program} {R : World → World → Prop} {Wg : Nat} {b₀ : Frame} {a₀ : Act} {ops₀ : Array Oper} {i₀ : Nat} {rest₀ : List Nat} {k₀ : List Item} {cs : List Frame} {qt : Nat}
theorem liveR (kn : ∀ a b, R a b → WgLive L.tWg Wg a → WgLive L.tWg Wg b) {w w₁ : World} (h : WgLive L.tWg Wg w) (r : R w w₁) : WgLive L.tWg Wg w₁ := kn _ _ r h
set_option maxRecDepth 100000 in
set_option maxHeartbeats 8000000 in
/-- Add(-1). -/
theorem addNeg (H : WgLib P L) (kn : ∀ a b, R a b → WgLive L.tWg Wg a → WgLive L.tWg Wg b) (hT : QuitsD P qt 0 (G (b₀.at (a₀.put ((ops₀[i₀]?).bind (·.dst)) (.tuple #[])) (.inRegion ops₀ rest₀ :: k₀)) cs)) (w : World) (hK : WgLive L.tWg Wg w) :
    Goes P false R DC0 (KR P L.tWg Wg R) 20 (G ((base L.add).at ⟨#[.pointer (some ⟨Wg, 0, none⟩), .int .i64 (-1), undef, undef, undef, undef, undef, undef, undef, undef, undef, undef, undef, undef, undef, undef, undef, undef, undef, undef, undef, undef, undef, undef, undef, undef, undef, undef, undef, undef, undef, undef, undef, undef, undef, undef, undef, undef, undef, undef, undef, undef, undef, undef, undef, undef, undef, undef, undef, undef, undef, undef, undef, undef, undef, undef, undef, undef, undef, undef, undef, undef, undef, undef, undef, undef, undef, undef, undef, undef, undef, undef, undef, undef, undef, undef, undef, undef, undef, undef, undef, undef, undef, undef, undef, undef, undef, undef, undef, undef, undef, undef, undef, undef, undef, undef, undef, undef, undef, undef, undef, undef, undef, undef, undef, undef, undef, undef, undef, undef, undef, undef, undef, undef, undef, undef, undef], []⟩ [.code (body_add L)]) (b₀.at a₀ (.inRegion ops₀ (i₀ :: rest₀) :: k₀) :: cs)) w := by
  lib_facts
  simp only [body_add, addFn, Option.getD_some]
  u_c stepG_seq (liveR kn) hK
  u_cond true (liveR kn) hK
  u_c stepG_seq (liveR kn) hK
  u_c stepG_seq (liveR kn) hK
  u_reg (liveR kn) hK
  u_op (liveR kn) hK
  u_op (liveR kn) hK
  u_c stepG_region_end (liveR kn) hK
  u_cond true (liveR kn) hK
  u_reg (liveR kn) hK
  u_op (liveR kn) hK
  u_conv H.underlying_tWgP H.room_tWg (WgLive.cell0 hK).choose_spec (liveR kn) hK
  refine Goes.stop (fun w₁ h₁ => ?_)
  replace hK := (liveR kn) hK h₁
  clear h₁
  refine ⟨rfl, _, stepG_markAt .releaseMerge (by simp) rfl rfl (by k_ne) rfl H.f_relMerge (x_relMerge_n L) (x_relMerge_b L) (x_relMerge_x L) (x_relMerge_f L) (by simp [Act.eval, stA]), 10, ?_⟩
  walk_nrm
  u_c stepG_region_end (liveR kn) hK
  u_c stepG_seq (liveR kn) hK
  u_reg (liveR kn) hK
  refine Goes.stop (fun w₁ h₁ => ?_)
  replace hK := (liveR kn) hK h₁
  clear h₁
  refine ⟨rfl, _, stepG_mark0 .disable (by simp) rfl rfl (by k_ne) rfl H.f_disable (x_disable_n L) (x_disable_b L) (x_disable_x L) (x_disable_f L), 50, ?_⟩
  walk_nrm
  u_c stepG_region_end (liveR kn) hK
  u_reg (liveR kn) hK
  u_defer (liveR kn) hK
  u_c stepG_region_end (liveR kn) hK
  u_c stepG_seq (liveR kn) hK
  u_reg (liveR kn) hK
  u_op (liveR kn) hK
  u_c stepG_region_end (liveR kn) hK
  u_c stepG_seq (liveR kn) hK
  u_c stepG_seq (liveR kn) hK
  u_reg (liveR kn) hK
  u_bub (liveR kn) hK
  u_c stepG_region_end (liveR kn) hK
  u_cond false (liveR kn) hK
  u_c stepG_skip (liveR kn) hK
  u_c stepG_seq (liveR kn) hK
  u_reg (liveR kn) hK
  u_op (liveR kn) hK
  u_op (liveR kn) hK
  u_op (liveR kn) hK
  u_op (liveR kn) hK
  u_op (liveR kn) hK
  u_op (liveR kn) hK
  u_call H.f_uAdd (nm_uAdd L) uAddFn (liveR kn) hK
  u_c stepG_seq (liveR kn) hK
  u_reg (liveR kn) hK
  u_op (liveR kn) hK
  u_c stepG_region_end (liveR kn) hK
  u_c stepG_seq (liveR kn) hK
  u_reg (liveR kn) hK
  u_op (liveR kn) hK
  u_op (liveR kn) hK
  u_op (liveR kn) hK
  u_op (liveR kn) hK
  refine Goes.stop (fun w₁ h₁ => ?_)
  clear h₁ hK
  refine ⟨rfl, fun v wt hwt hv hw => ?_⟩
  have e0 : IntKind.u64.wrap (KK + 18446744069414584320) = 0 := by decide
  have e1 : IntKind.u64.wrap (KK + 1 + 18446744069414584320) = 1 := by decide
  rcases Nat.eq_zero_or_pos v with rfl | hvp <;> (obtain rfl | rfl : wt = 0 ∨ wt = 1 := by omega)
  · replace hw : WgAt L.tWg Wg w₁ KK 0 := by simpa using hw
    have z : ((0 : Nat) : Int) * KK + ((0 : Nat) : Int) = 0 := by simp
    rw [z]
    refine ⟨_, (stepG_add_atomic rfl rfl (by k_ne) rfl H.f_addU64 (x_addU64_n L) (x_addU64_b L) (x_addU64_x L) .u64 (x_addU64_f L) rfl rfl hw.cellSt (hw.thaw 0)).trans (by rw [e0]; rfl), fun hl => absurd hl.2 (by decide), fun _ => ⟨qt + 89, ?_⟩⟩
    clear hw
    walk_nrm
    q_val (.int .u64 0)
    q_c stepG_region_end
    q_c stepG_ret'
    q_leave1 H.f_uAdd
    q_val (.int .u64 0)
    q_c stepG_region_end
    q_c stepG_seq
    q_c stepG_seq
    q_reg
    q_val (.int .u64 0)
    q_val (.int .u64 0)
    q_val (.bool false)
    q_val (.bool false)
    q_skip
    q_skip
    q_val (.bool false)
    q_c stepG_region_end
    q_cond false
    q_c stepG_skip
    q_c stepG_seq
    q_reg
    q_val (.int .u64 0)
    q_val (.int .u64 0)
    q_val (.int .i32 0)
    q_val (.int .i32 0)
    q_c stepG_region_end
    q_c stepG_seq
    q_reg
    q_val (.int .u64 0)
    q_val (.int .u64 0)
    q_val (.int .u32 0)
    q_val (.int .u32 0)
    q_c stepG_region_end
    q_c stepG_seq
    q_c stepG_seq
    q_reg
    q_val (.bool true)
    q_val (.int .i64 (-1))
    q_val (.bool false)
    q_val (.bool false)
    q_val (.bool false)
    q_skip
    q_skip
    q_skip
    q_skip
    q_val (.bool false)
    q_c stepG_region_end
    q_cond false
    q_c stepG_skip
    q_c stepG_seq
    q_c stepG_seq
    q_reg
    q_val (.int .i32 0)
    q_val (.bool false)
    q_c stepG_region_end
    q_cond false
    q_c stepG_skip
    q_c stepG_seq
    q_c stepG_seq
    q_reg
    q_val (.int .u32 0)
    q_val (.bool false)
    q_val (.bool false)
    q_skip
    q_skip
    q_val (.bool false)
    q_val (.bool false)
    q_skip
    q_skip
    q_skip
    q_skip
    q_val (.bool false)
    q_c stepG_region_end
    q_cond false
    q_c stepG_skip
    q_c stepG_seq
    q_c stepG_seq
    q_reg
    q_val (.int .i32 0)
    q_val (.bool false)
    q_val (.bool false)
    q_val (.int .u32 0)
    q_val (.bool true)
    q_val (.bool true)
    q_c stepG_region_end
    q_cond true
    q_c stepG_ret'
    q_enable
    q_leave0 H.f_add
    exact hT
  · replace hw : WgAt L.tWg Wg w₁ (KK + 1) 0 := by simpa using hw
    have z : ((0 : Nat) : Int) * KK + ((1 : Nat) : Int) = 1 := by simp
    rw [z]
    refine ⟨_, (stepG_add_atomic rfl rfl (by k_ne) rfl H.f_addU64 (x_addU64_n L) (x_addU64_b L) (x_addU64_x L) .u64 (x_addU64_f L) rfl rfl hw.cellSt (hw.thaw 0)).trans (by rw [e1]; rfl), fun _ => ⟨120, ?_⟩, fun hl => absurd ⟨rfl, rfl⟩ hl⟩
    have hF : WgLive L.tWg Wg (w₁.setCell (stA Wg) (.int .u64 1)) := ⟨_, _, hw.setSt 1⟩
    clear hw
    walk_nrm
    u_op (liveR kn) hF
    u_c stepG_region_end (liveR kn) hF
    u_c stepG_ret' (liveR kn) hF
    u_leave1 H.f_uAdd (liveR kn) hF
    u_op (liveR kn) hF
    u_c stepG_region_end (liveR kn) hF
    u_c stepG_seq (liveR kn) hF
    u_c stepG_seq (liveR kn) hF
    u_reg (liveR kn) hF
    u_op (liveR kn) hF
    u_op (liveR kn) hF
    u_op (liveR kn) hF
    u_op (liveR kn) hF
    u_skip (liveR kn) hF
    u_skip (liveR kn) hF
    u_op (liveR kn) hF
    u_c stepG_region_end (liveR kn) hF
    u_cond false (liveR kn) hF
    u_c stepG_skip (liveR kn) hF
    u_c stepG_seq (liveR kn) hF
    u_reg (liveR kn) hF
    u_op (liveR kn) hF
    u_op (liveR kn) hF
    u_op (liveR kn) hF
    u_op (liveR kn) hF
    u_c stepG_region_end (liveR kn) hF
    u_c stepG_seq (liveR kn) hF
    u_reg (liveR kn) hF
    u_op (liveR kn) hF
    u_op (liveR kn) hF
    u_op (liveR kn) hF
    u_op (liveR kn) hF
    u_c stepG_region_end (liveR kn) hF
    u_c stepG_seq (liveR kn) hF
    u_c stepG_seq (liveR kn) hF
    u_reg (liveR kn) hF
    u_op (liveR kn) hF
    u_op (liveR kn) hF
    u_op (liveR kn) hF
    u_op (liveR kn) hF
    u_op (liveR kn) hF
    u_skip (liveR kn) hF
    u_skip (liveR kn) hF
    u_skip (liveR kn) hF
    u_skip (liveR kn) hF
    u_op (liveR kn) hF
    u_c stepG_region_end (liveR kn) hF
    u_cond false (liveR kn) hF
    u_c stepG_skip (liveR kn) hF
    u_c stepG_seq (liveR kn) hF
    u_c stepG_seq (liveR kn) hF
    u_reg (liveR kn) hF
    u_op (liveR kn) hF
    u_op (liveR kn) hF
    u_c stepG_region_end (liveR kn) hF
    u_cond false (liveR kn) hF
    u_c stepG_skip (liveR kn) hF
    u_c stepG_seq (liveR kn) hF
    u_c stepG_seq (liveR kn) hF
    u_reg (liveR kn) hF
    u_op (liveR kn) hF
    u_op (liveR kn) hF
    u_op (liveR kn) hF
    u_op (liveR kn) hF
    u_op (liveR kn) hF
    u_op (liveR kn) hF
    u_op (liveR kn) hF
    u_skip (liveR kn) hF
    u_skip (liveR kn) hF
    u_skip (liveR kn) hF
    u_skip (liveR kn) hF
    u_op (liveR kn) hF
    u_c stepG_region_end (liveR kn) hF
    u_cond false (liveR kn) hF
    u_c stepG_skip (liveR kn) hF
    u_c stepG_seq (liveR kn) hF
    u_c stepG_seq (liveR kn) hF
    u_reg (liveR kn) hF
    u_op (liveR kn) hF
    u_op (liveR kn) hF
    u_op (liveR kn) hF
    u_op (liveR kn) hF
    u_op (liveR kn) hF
    u_op (liveR kn) hF
    u_c stepG_region_end (liveR kn) hF
    u_cond false (liveR kn) hF
    u_c stepG_skip (liveR kn) hF
    u_c stepG_seq (liveR kn) hF
    u_c stepG_seq (liveR kn) hF
    u_reg (liveR kn) hF
    u_op (liveR kn) hF
    u_op (liveR kn) hF
    u_op (liveR kn) hF
    u_call H.f_uLoad (nm_uLoad L) uLoadFn (liveR kn) hF
    u_c stepG_seq (liveR kn) hF
    u_reg (liveR kn) hF
    u_op (liveR kn) hF
    u_c stepG_region_end (liveR kn) hF
    u_c stepG_seq (liveR kn) hF
    u_reg (liveR kn) hF
    u_op (liveR kn) hF
    u_op (liveR kn) hF
    u_op (liveR kn) hF
    refine Goes.stop (fun w₂ h₂ => ?_)
    clear h₂ hF
    refine ⟨rfl, fun hw => ⟨_, stepG_load_atomic rfl rfl (by k_ne) rfl H.f_loadU64 (x_loadU64_n L) (x_loadU64_b L) (x_loadU64_x L) .u64 (x_loadU64_f L) rfl hw.cellSt, 40, ?_⟩⟩
    have hF : WgLive L.tWg Wg w₂ := ⟨_, _, hw⟩
    clear hw
    walk_nrm
    u_op (liveR kn) hF
    u_c stepG_region_end (liveR kn) hF
    u_c stepG_ret' (liveR kn) hF
    u_leave1 H.f_uLoad (liveR kn) hF
    u_op (liveR kn) hF
    u_op (liveR kn) hF
    u_c stepG_region_end (liveR kn) hF
    u_cond false (liveR kn) hF
    u_c stepG_skip (liveR kn) hF
    u_c stepG_seq (liveR kn) hF
    u_reg (liveR kn) hF
    u_op (liveR kn) hF
    u_op (liveR kn) hF
    u_op (liveR kn) hF
    u_call H.f_uStore (nm_uStore L) uStoreFn (liveR kn) hF
    u_reg (liveR kn) hF
    u_op (liveR kn) hF
    u_op (liveR kn) hF
    u_op (liveR kn) hF
    u_op (liveR kn) hF
    refine Goes.stop (fun w₃ h₃ => ?_)
    clear h₃ hF
    refine ⟨rfl, fun hw => ⟨_, stepG_store_atomic rfl rfl (by k_ne) rfl H.f_storeU64 (x_storeU64_n L) (x_storeU64_b L) (x_storeU64_x L) (x_storeU64_f L) rfl rfl hw.cellSt (hw.thaw 0), 50, ?_⟩⟩
    have hF : WgLive L.tWg Wg (w₃.setCell (stA Wg) (.int .u64 0)) := ⟨_, _, hw.setSt 0⟩
    clear hw
    walk_nrm
    u_c stepG_region_end (liveR kn) hF
    u_c stepG_end (liveR kn) hF
    u_leave0 H.f_uStore (liveR kn) hF
    u_c stepG_region_end (liveR kn) hF
    u_c stepG_seq (liveR kn) hF
    u_c stepG_seq (liveR kn) hF
    u_reg (liveR kn) hF
    u_op (liveR kn) hF
    u_c stepG_region_end (liveR kn) hF
    u_cond false (liveR kn) hF
    u_c stepG_skip (liveR kn) hF
    u_c stepG_block (liveR kn) hF
    u_c stepG_loop (liveR kn) hF
    u_c stepG_seq (liveR kn) hF
    u_c stepG_seq (liveR kn) hF
    u_reg (liveR kn) hF
    u_op (liveR kn) hF
    u_op (liveR kn) hF
    u_c stepG_region_end (liveR kn) hF
    u_cond true (liveR kn) hF
    u_c stepG_skip (liveR kn) hF
    u_c stepG_seq (liveR kn) hF
    u_c stepG_block (liveR kn) hF
    u_reg (liveR kn) hF
    u_op (liveR kn) hF
    u_op (liveR kn) hF
    u_op (liveR kn) hF
    refine Goes.stop (fun w₄ h₄ => ?_)
    clear h₄ hF
    refine ⟨rfl, mayWake_entry rfl rfl H.f_semrelease (x_semrelease_b L), fun hw => ⟨_, (stepG_semrelease rfl rfl (by k_ne) rfl H.f_semrelease (x_semrelease_n L) (x_semrelease_b L) (x_semrelease_x L) (x_semrelease_f L) (by simp [Act.eval, smA]) hw.cellSm (hw.thaw 1)).trans (by rfl), qt + 19, ?_⟩⟩
    clear hw
    walk_nrm
    q_c stepG_region_end
    q_c stepG_inBlock
    q_reg
    q_val (.int .u32 1)
    q_val (.int .u32 0)
    q_val (.int .u32 0)
    q_c stepG_region_end
    q_c stepG_inLoop
    q_c stepG_seq
    q_c stepG_seq
    q_reg
    q_val (.int .u32 0)
    q_val (.bool false)
    q_c stepG_region_end
    q_cond false
    q_exit
    q_c stepG_end
    q_enable
    q_leave0 H.f_add
    exact hT
  · replace hw : WgAt L.tWg Wg w₁ (((v : Nat) + 1) * KK + 0) 0 := by simpa using hw
    have z : ((v : Nat) : Int) * KK + ((0 : Nat) : Int) = (v : Int) * KK + 0 := by simp
    rw [z]
    have hv0 : 0 < v := by omega
    have eS : IntKind.u64.wrap (((v : Nat) + 1) * KK + 0 + 18446744069414584320) = (v : Int) * KK + 0 := by rw [IntKind.wrap_u64]; simp only [KK]; omega
    obtain ⟨S, hS⟩ : ∃ S : Int, S = (v : Int) * KK + 0 := ⟨_, rfl⟩
    rw [← hS] at eS ⊢
    have a1 : S / 4294967296 = (v : Int) := by rw [hS]; simp only [KK]; omega
    have a2 : 0 ≤ S ∧ S < 9223372036854775808 := by rw [hS]; simp only [KK]; omega
    have b1 : bits .and .u64 S 2147483648 = 0 := by rw [hS]; have := st_flag v 0 (by omega) (by omega); simpa [KK] using this
    have b2 : bits .and .u64 S 2147483647 = 0 := by rw [hS]; have := st_waiters v 0 (by omega) (by omega); simpa [KK] using this
    clear hS z
    refine ⟨_, (stepG_add_atomic rfl rfl (by k_ne) rfl H.f_addU64 (x_addU64_n L) (x_addU64_b L) (x_addU64_x L) .u64 (x_addU64_f L) rfl rfl hw.cellSt (hw.thaw 0)).trans (by rw [eS]; rfl), fun hl => absurd hl.1 (by omega), fun _ => ⟨qt + 89, ?_⟩⟩
    clear hw
    walk_nrm
    q_vn (.int .u64 S)
    q_c stepG_region_end
    q_c stepG_ret'
    q_leave1 H.f_uAdd
    q_vn (.int .u64 S)
    q_c stepG_region_end
    q_c stepG_seq
    q_c stepG_seq
    q_reg
    q_vn (.int .u64 S)
    q_vn (.int .u64 0)
    q_vn (.bool false)
    q_vn (.bool false)
    q_skip
    q_skip
    q_vn (.bool false)
    q_c stepG_region_end
    q_cond false
    q_c stepG_skip
    q_c stepG_seq
    q_reg
    q_vn (.int .u64 S)
    q_vn (.int .u64 (v : Int))
    q_vn (.int .i32 (v : Int))
    q_vn (.int .i32 (v : Int))
    q_c stepG_region_end
    q_c stepG_seq
    q_reg
    q_vn (.int .u64 S)
    q_vn (.int .u64 0)
    q_vn (.int .u32 0)
    q_vn (.int .u32 0)
    q_c stepG_region_end
    q_c stepG_seq
    q_c stepG_seq
    q_reg
    q_vn (.bool true)
    q_vn (.int .i64 (-1))
    q_vn (.bool false)
    q_vn (.bool false)
    q_vn (.bool false)
    q_skip
    q_skip
    q_skip
    q_skip
    q_vn (.bool false)
    q_c stepG_region_end
    q_cond false
    q_c stepG_skip
    q_c stepG_seq
    q_c stepG_seq
    q_reg
    q_vn (.int .i32 (v : Int))
    q_vn (.bool false)
    q_c stepG_region_end
    q_cond false
    q_c stepG_skip
    q_c stepG_seq
    q_c stepG_seq
    q_reg
    q_vn (.int .u32 0)
    q_vn (.bool false)
    q_vn (.bool false)
    q_skip
    q_skip
    q_vn (.bool false)
    q_vn (.bool false)
    q_skip
    q_skip
    q_skip
    q_skip
    q_vn (.bool false)
    q_c stepG_region_end
    q_cond false
    q_c stepG_skip
    q_c stepG_seq
    q_c stepG_seq
    q_reg
    q_vn (.int .i32 (v : Int))
    q_vn (.bool true)
    q_vn (.bool true)
    q_skip
    q_skip
    q_vn (.bool true)
    q_c stepG_region_end
    q_cond true
    q_c stepG_ret'
    q_enable
    q_leave0 H.f_add
    exact hT
  · replace hw : WgAt L.tWg Wg w₁ (((v : Nat) + 1) * KK + 1) 0 := by simpa using hw
    have z : ((v : Nat) : Int) * KK + ((1 : Nat) : Int) = (v : Int) * KK + 1 := by simp
    rw [z]
    have hv0 : 0 < v := by omega
    have eS : IntKind.u64.wrap (((v : Nat) + 1) * KK + 1 + 18446744069414584320) = (v : Int) * KK + 1 := by rw [IntKind.wrap_u64]; simp only [KK]; omega
    obtain ⟨S, hS⟩ : ∃ S : Int, S = (v : Int) * KK + 1 := ⟨_, rfl⟩
    rw [← hS] at eS ⊢
    have a1 : S / 4294967296 = (v : Int) := by rw [hS]; simp only [KK]; omega
    have a2 : 0 ≤ S ∧ S < 9223372036854775808 := by rw [hS]; simp only [KK]; omega
    have b1 : bits .and .u64 S 2147483648 = 0 := by rw [hS]; have := st_flag v 1 (by omega) (by omega); simpa [KK] using this
    have b2 : bits .and .u64 S 2147483647 = 1 := by rw [hS]; have := st_waiters v 1 (by omega) (by omega); simpa [KK] using this
    clear hS z
    refine ⟨_, (stepG_add_atomic rfl rfl (by k_ne) rfl H.f_addU64 (x_addU64_n L) (x_addU64_b L) (x_addU64_x L) .u64 (x_addU64_f L) rfl rfl hw.cellSt (hw.thaw 0)).trans (by rw [eS]; rfl), fun hl => absurd hl.1 (by omega), fun _ => ⟨qt + 89, ?_⟩⟩
    clear hw
    walk_nrm
    q_vn (.int .u64 S)
    q_c stepG_region_end
    q_c stepG_ret'
    q_leave1 H.f_uAdd
    q_vn (.int .u64 S)
    q_c stepG_region_end
    q_c stepG_seq
    q_c stepG_seq
    q_reg
    q_vn (.int .u64 S)
    q_vn (.int .u64 0)
    q_vn (.bool false)
    q_vn (.bool false)
    q_skip
    q_skip
    q_vn (.bool false)
    q_c stepG_region_end
    q_cond false
    q_c stepG_skip
    q_c stepG_seq
    q_reg
    q_vn (.int .u64 S)
    q_vn (.int .u64 (v : Int))
    q_vn (.int .i32 (v : Int))
    q_vn (.int .i32 (v : Int))
    q_c stepG_region_end
    q_c stepG_seq
    q_reg
    q_vn (.int .u64 S)
    q_vn (.int .u64 1)
    q_vn (.int .u32 1)
    q_vn (.int .u32 1)
    q_c stepG_region_end
    q_c stepG_seq
    q_c stepG_seq
    q_reg
    q_vn (.bool true)
    q_vn (.int .i64 (-1))
    q_vn (.bool false)
    q_vn (.bool false)
    q_vn (.bool false)
    q_skip
    q_skip
    q_skip
    q_skip
    q_vn (.bool false)
    q_c stepG_region_end
    q_cond false
    q_c stepG_skip
    q_c stepG_seq
    q_c stepG_seq
    q_reg
    q_vn (.int .i32 (v : Int))
    q_vn (.bool false)
    q_c stepG_region_end
    q_cond false
    q_c stepG_skip
    q_c stepG_seq
    q_c stepG_seq
    q_reg
    q_vn (.int .u32 1)
    q_vn (.bool true)
    q_vn (.bool true)
    q_vn (.int .i64 (-1))
    q_vn (.bool false)
    q_vn (.bool false)
    q_vn (.bool false)
    q_skip
    q_skip
    q_skip
    q_skip
    q_vn (.bool false)
    q_c stepG_region_end
    q_cond false
    q_c stepG_skip
    q_c stepG_seq
    q_c stepG_seq
    q_reg
    q_vn (.int .i32 (v : Int))
    q_vn (.bool true)
    q_vn (.bool true)
    q_skip
    q_skip
    q_vn (.bool true)
    q_c stepG_region_end
    q_cond true
    q_c stepG_ret'
    q_enable
    q_leave0 H.f_add
    exact hT
set_option maxRecDepth 100000 in
/-- Done, called. -/
theorem doneW (H : WgLib P L) (kn : ∀ a b, R a b → WgLive L.tWg Wg a → WgLive L.tWg Wg b) (hT : QuitsD P qt 0 (G (b₀.at (a₀.put ((ops₀[i₀]?).bind (·.dst)) (.tuple #[])) (.inRegion ops₀ rest₀ :: k₀)) cs)) (w : World) (hK : WgLive L.tWg Wg w) :
    Goes P false R DC0 (KR P L.tWg Wg R) 23 (G ((base L.done).at ⟨#[.pointer (some ⟨Wg, 0, none⟩), undef, undef, undef], []⟩ [.code (body_done L)]) (b₀.at a₀ (.inRegion ops₀ (i₀ :: rest₀) :: k₀) :: cs)) w := by
  lib_facts
  have hA := @addNeg L P R Wg
  simp only [body_done, body_add, doneFn, addFn, Option.getD_some] at hA ⊢
  u_reg (liveR kn) hK
  u_op (liveR kn) hK
  u_in (liveR kn) hK
  refine goes_call rfl rfl (by k_ne) rfl H.f_add (nm_add L) rfl ⟨by u_nil, ?_⟩
  walk_nrmf addFn
  refine hA (qt := qt + 3) H kn ?_ _ hK
  q_c stepG_region_end
  q_c stepG_end
  q_leave0 H.f_done
  exact hT
end
end Go.Proofs.Ytmmolicodlmlkaa.Ph
namespace Go.Proofs.Ytmmolicodlmlkaa.Ph
open Go.Conc Go.ConcN Go.RowKit Go.Conc.Lib Go.ConcR.Gen Go.ConcN.Gen
open Go.ConcR (KK wgBlock WgAt stA smA rd wr mk DC0 Payload)
open Go.Proofs.Ytmmolicodlmlkaa.Rel (RS DS EvS Tr Sub GoT Go1)
set_option linter.unusedVariables false
set_option linter.unusedSimpArgs false

theorem dft_defers : (default : Frame).defers = [] := rfl
theorem dft_todo : (default : Frame).todo = [] := rfl
/-- The frame with which a goroutine begins and ends. -/
def bot (P : Program) : Frame := { (default : Frame) with fn := P.funcs.size, mode := .panicking [goexitEntry] }
/-- The deferred call of a closure. -/
def dclos (f : FuncId) (cap : Array Value) : Deferred := { target := .fn (.func f) cap, args := #[] }
section
variable {P : Program} {main : Bool} {b : Frame} {a : Act} {k : List Item} {cs : List Frame} {w : World} {f : FuncId} {fn : Func} {c : Code} {cap : Array Value} {ds : List Deferred} {todo : List Item} {ops : Array Oper} {i : Nat} {rest : List Nat} {o : Oper}
theorem stepG_born (hf : P.funcs[f]? = some fn) (hname : (fn.name == "runtime.NumGoroutine") = false) (hb : fn.body = some c) :
    stepG P main (born P (dclos f cap)) w = .go (G ((baseD f).at { tmps := cap ++ Array.replicate (fn.ntmps - cap.size) undef, defers := [] } [.code c]) [bot P]) w #[] := by
  have h1 : ¬ fn.name = "runtime.NumGoroutine" := by simpa using hname
  rw [← enter_atD cap hf hb]
  simp [born, G, stepG, unwind, callDeferred, dclos, invoke, callFunc, hf, h1, hb, GStep.after, seen_none, bot, dft_defers]
theorem stepG_bot : stepG P false (G (bot P) []) w = .go { G (bot P) [] with status := .finished } w #[] := by
  simp [G, stepG, unwind, bot, Frame.catches, goexitEntry, dft_defers, dft_todo]
/-- A deferred closure is entered. -/
theorem stepG_unwind_closure (hd : a.defers = dclos f cap :: ds) (hf : P.funcs[f]? = some fn) (hname : (fn.name == "runtime.NumGoroutine") = false) (hb : fn.body = some c) :
    stepG P main (G { b.at a todo with mode := .returning } cs) w =
      .go (G ((baseD f).at { tmps := cap ++ Array.replicate (fn.ntmps - cap.size) undef, defers := [] } [.code c]) ({ b.at ⟨a.tmps, ds⟩ todo with mode := .returning } :: cs)) w #[] := by
  have h1 : ¬ fn.name = "runtime.NumGoroutine" := by simpa using hname
  rw [← enter_atD cap hf hb]
  simp [G, stepG, unwind, callDeferred, Frame.at, hd, dclos, invoke, callFunc, hf, h1, hb, GStep.after, seen_none]
/-- A deferred call returns into the first frame. -/
theorem stepG_leave_bot (hn : b.kind = .deferred) (hd : a.defers = []) (hf : P.funcs[b.fn]? = some fn) (hr : fn.results = #[]) :
    stepG P main (G { b.at a todo with mode := .returning } [bot P]) w = .go (G (bot P) []) w #[] := by
  have h1 := results_none hr a.tmps P w
  have h2 : (results fn a.tmps).events P w #[] = #[] := events_results_none hr a.tmps #[]
  simp [G, stepG, unwind, doReturn, Frame.at, hn, hd, hf, h1, h2, seen, GStep.after, bot, goexitEntry]
/-- 'defer' of a closure in a slot. -/
theorem stepG_defer_closure {t : Tmp} {ats : Array TypeId} (ho : ops[i]? = some o) (hw : Region.wanted o (yielded ops a.tmps) = true) (hk : b.kind ≠ .early) (hop : o.op = .defer { callee := .value (.tmp t), args := #[], argTypes := ats })
    (hv : a.eval (.tmp t) = .func (.func f) #[] cap) :
    stepG P main (G (b.at a (.inRegion ops (i :: rest) :: k)) cs) w = .go (G (b.at (Act.put ⟨a.tmps, dclos f cap :: a.defers⟩ o.dst undef) (.inRegion ops rest :: k)) cs) w #[] := by
  have hr : (execOp a.eval o).run P w = .ok (.defer (dclos f cap)) w := by
    unfold execOp
    simp [hop, resolve, Deferred.ofValue, hv, dclos]
  have he : (execOp a.eval o).events P w #[] = #[] := by
    unfold execOp
    simp [hop, resolve, Deferred.ofValue, hv]
  have hfin : (b.at ⟨a.tmps, dclos f cap :: a.defers⟩ (.inRegion ops (i :: rest) :: k)).finish undef = b.at (Act.put ⟨a.tmps, dclos f cap :: a.defers⟩ o.dst undef) (.inRegion ops rest :: k) := by rw [Frame.finish_at, ho]; rfl
  have hk' : (b.kind == CallKind.early) = false := by simpa using hk
  rw [stepG_oper ho hw, ← hfin]
  simp [stepG.apply, hr, he, G, Frame.at, hk', GStep.after, seen_none]
/-- 'recover' where the caller is on its way out by a plain return. -/
theorem stepG_recover {ats : Array TypeId} {c : Frame} (ho : ops[i]? = some o) (hw : Region.wanted o (yielded ops a.tmps) = true) (hk : b.kind = .deferred) (hr0 : b.roundOf = none) (hop : o.op = .call { callee := .builtin .recover, args := #[], argTypes := ats })
    (hc : c.mode = .returning) :
    stepG P main (G (b.at a (.inRegion ops (i :: rest) :: k)) (c :: cs)) w = .go (G (b.at (a.put o.dst .nilIface) (.inRegion ops rest :: k)) (c :: cs)) w #[] := by
  have hr : (execOp a.eval o).run P w = .ok .recover w := by
    unfold execOp
    simp [hop, resolve, invoke, builtin]
  have he : (execOp a.eval o).events P w #[] = #[] := by
    unfold execOp
    simp [hop, resolve, invoke, builtin]
  have hfin : (b.at a (.inRegion ops (i :: rest) :: k)).finish .nilIface = b.at (a.put o.dst .nilIface) (.inRegion ops rest :: k) := by rw [Frame.finish_at, ho]; rfl
  have hk' : (b.kind == CallKind.early) = false := by rw [hk]; rfl
  rw [stepG_oper ho hw, ← hfin]
  simp [stepG.apply, hr, he, G, Frame.at, hk', hk, hr0, GStep.after, seen_none, tryRecover, hc]
/-- A call of a closure in a slot. -/
theorem stepG_call_closure {t : Tmp} {args : Array Operand} {ats : Array TypeId} (ho : ops[i]? = some o) (hw : Region.wanted o (yielded ops a.tmps) = true) (hk : b.kind ≠ .early) (hop : o.op = .call { callee := .value (.tmp t), args := args, argTypes := ats })
    (hv : a.eval (.tmp t) = .func (.func f) #[] cap) (hf : P.funcs[f]? = some fn) (hname : (fn.name == "runtime.NumGoroutine") = false) (hb : fn.body = some c) :
    stepG P main (G (b.at a (.inRegion ops (i :: rest) :: k)) cs) w = .go (G (Frame.enter P f (args.map a.eval ++ cap) .normal) (b.at a (.inRegion ops (i :: rest) :: k) :: cs)) w #[] := by
  have h1 : ¬ fn.name = "runtime.NumGoroutine" := by simpa using hname
  have hr : (execOp a.eval o).run P w = .ok (.enter f (args.map a.eval ++ cap)) w := by
    unfold execOp
    simp [hop, resolve, Deferred.ofValue, hv, invoke, callFunc, hf, h1, hb]
  have he : (execOp a.eval o).events P w #[] = #[] := by
    unfold execOp
    simp [hop, resolve, Deferred.ofValue, hv, invoke, callFunc, hf, h1, hb]
  rw [stepG_enter ho hw hk hr]
  have : listed P b.fn a o w = #[] := by unfold listed; rw [he]; exact seen_none P _
  rw [this]
end
/-! ### a worker's own steps -/
/-- Nothing turns; what is listed is let. -/
def DE1 (Rd S : Nat → Prop) (a b : World) (es : Array Event) : Prop := b = a ∧ ∀ e ∈ es, EvS Rd S e
theorem de1_none {Rd S : Nat → Prop} {w : World} {es : Array Event} (h : ∀ e ∈ es, False) : DE1 Rd S w w es := ⟨rfl, fun e he => (h e he).elim⟩
section
variable {P : Program} {ty : TypeId} {Wg C : Nat} {mine : Nat → Prop} {Rd S : Nat → Prop} {Stop : (Nat → Prop) → Goroutine → World → Prop} {g : Goroutine} {w : World} {n : Nat}
theorem dw_same {a b : World} {es : Array Event} (h : DE1 Rd S a b es) : DW Wg C mine Rd S a b es S := by
  obtain ⟨rfl, h⟩ := h
  exact ⟨rfl, rfl, rfl, Nat.le_refl _, fun b => ⟨.inl, fun h => h.elim id fun h => by omega⟩, fun _ _ _ _ => rfl, .refl _ _ _, fun e he => .inl (h e he)⟩
abbrev GW (P : Program) (ty : TypeId) (Wg C : Nat) (mine Rd : Nat → Prop) (Stop : (Nat → Prop) → Goroutine → World → Prop) : (Nat → Prop) → Goroutine → World → Prop := Go1 P false (RW ty Wg C mine Rd) (DW Wg C mine Rd) Stop
theorem gw_seg (h : Goes P false (RW ty Wg C mine Rd S) (DE1 Rd S) (fun g w => GW P ty Wg C mine Rd Stop S g w) n g w) : GW P ty Wg C mine Rd Stop S g w :=
  Go1.bind (fun _ a => RW.refl a) (Go1.of_goes (Stop := fun S g w => GW P ty Wg C mine Rd Stop S g w) (fun _ _ h => h) (fun _ _ _ h => dw_same h) (fun _ _ h => h) h) fun _ _ _ h => h
theorem gw_last (h : Goes P false (RW ty Wg C mine Rd S) (DE1 Rd S) (Stop S) n g w) : GW P ty Wg C mine Rd Stop S g w := Go1.of_goes (fun _ _ h => h) (fun _ _ _ h => dw_same h) (fun _ _ h => h) h
end
/-- What stands under every step may be kept beside a walk. -/
theorem goes_keep {P : Program} {main : Bool} {R : World → World → Prop} {Stop : Goroutine → World → Prop} {I : World → Prop} (hI : ∀ a b, R a b → I a → I b) : ∀ {n : Nat} {g : Goroutine} {w : World}, I w → Goes P main R DC0 Stop n g w → Goes P main R DC0 (fun g w => I w ∧ Stop g w) n g w
  | 0, g, w, hi, h => fun w₁ h₁ => ⟨hI _ _ h₁ hi, h w₁ h₁⟩
  | n + 1, g, w, hi, h => by
    rcases h with h | ⟨hs, h⟩
    · exact .inl fun w₁ h₁ => ⟨hI _ _ h₁ hi, h w₁ h₁⟩
    · refine .inr ⟨hs, fun w₁ h₁ => ?_⟩
      have h2 := h w₁ h₁
      cases hg : stepG P main g w₁ with
      | go g' w' es =>
        rw [hg] at h2
        refine ⟨h2.1, goes_keep hI ?_ h2.2⟩
        rw [h2.1.1]
        exact hI _ _ h₁ hi
      | _ => rw [hg] at h2; exact h2.elim
end Go.Proofs.Ytmmolicodlmlkaa.Ph
namespace Go.Proofs.Ytmmolicodlmlkaa.Ph
open Go.Conc Go.ConcN Go.RowKit Go.Conc.Lib Go.ConcR.Gen Go.ConcN.Gen
open Go.ConcR (KK wgBlock WgAt stA smA rd wr mk DC0 Payload)
open Go.Proofs.Ytmmolicodlmlkaa.Rel (RS DS EvS Tr Sub GoT Go1)
set_option linter.unusedVariables false
set_option linter.unusedSimpArgs false

/-- What stands under every step may be kept beside a walk. -/
theorem go1_keep {σ : Type} {P : Program} {main : Bool} {R : σ → World → World → Prop} {D : σ → World → World → Array Event → σ → Prop} {Stop : σ → Goroutine → World → Prop} {I : σ → World → Prop} (hR : ∀ s a b, R s a b → I s a → I s b) (hD : ∀ s a b es s', D s a b es s' → I s a → I s' b) {s : σ} {g : Goroutine} {w : World} (hi : I s w)
    (h : Go1 P main R D Stop s g w) : Go1 P main R D (fun s g w => I s w ∧ Stop s g w) s g w := by
  obtain ⟨T, h⟩ := h
  induction T generalizing s g w with
  | leaf => exact .stop fun w₁ h₁ => ⟨hR _ _ _ h₁ hi, h w₁ h₁⟩
  | node f ih =>
    refine .intro fun w₁ h₁ => ?_
    rcases h w₁ h₁ with h2 | ⟨hr, g', w', es, s', h2, h3, h4⟩
    · exact .inl ⟨hR _ _ _ h₁ hi, h2⟩
    · exact .inr ⟨hr, g', w', es, s', h2, h3, ih w₁ (hD _ _ _ _ _ h3 (hR _ _ _ h₁ hi)) h4⟩
theorem Go1.widen {σ : Type} {P : Program} {main : Bool} {R : σ → World → World → Prop} {D : σ → World → World → Array Event → σ → Prop} {Stop Stop' : σ → Goroutine → World → Prop} {s : σ} {g : Goroutine} {w : World} (h : Go1 P main R D Stop s g w) (k : ∀ s g w, Stop s g w → Stop' s g w) : Go1 P main R D Stop' s g w :=
  let ⟨T, h⟩ := h
  ⟨T, h.mono (fun _ _ _ h => h) (fun _ _ _ _ _ h => h) k⟩
/-- A cell of a block that stands. -/
theorem cell_stay {w w₁ : World} {a : Addr} (h : w₁.heap[a.block]? = w.heap[a.block]?) : w₁.cell? a = w.cell? a := by unfold World.cell?; rw [h]
abbrev ptr (b : Nat) : Value := .pointer (some ⟨b, 0, none⟩)
/-- What a worker reads: the group's box, its function's box, the numbers' boxes, the work's box. -/
structure WkF (Wg bw bf b1 bn bk bd : Nat) (n k j : Nat) (fd : FuncId) (capd : Array Value) (Rd : Nat → Prop) (w : World) : Prop where
  rw : Rd bw
  rf : Rd bf
  r1 : Rd b1
  rn : Rd bn
  rk : Rd bk
  rd : Rd bd
  cw : w.cell? ⟨bw, 0, none⟩ = some (ptr Wg)
  cf : w.cell? ⟨bf, 0, none⟩ = some (.func (.func 126) #[] #[ptr b1, ptr bn, ptr bk, ptr bd])
  c1 : w.cell? ⟨b1, 0, none⟩ = some (.int .i64 j)
  cn : w.cell? ⟨bn, 0, none⟩ = some (.int .i64 n)
  ck : w.cell? ⟨bk, 0, none⟩ = some (.int .i64 k)
  cd : w.cell? ⟨bd, 0, none⟩ = some (.func (.func fd) #[] capd)
section
variable {Wg C bw bf b1 bn bk bd n k j : Nat} {fd : FuncId} {capd : Array Value} {Rd S S' mine : Nat → Prop} {w w₁ w' : World} {ty : TypeId} {es : Array Event}
theorem WkF.stay (h : WkF Wg bw bf b1 bn bk bd n k j fd capd Rd w) (hs : ∀ b, Rd b → w₁.heap[b]? = w.heap[b]?) : WkF Wg bw bf b1 bn bk bd n k j fd capd Rd w₁ :=
  ⟨h.rw, h.rf, h.r1, h.rn, h.rk, h.rd, (cell_stay (hs _ h.rw)).trans h.cw, (cell_stay (hs _ h.rf)).trans h.cf, (cell_stay (hs _ h.r1)).trans h.c1, (cell_stay (hs _ h.rn)).trans h.cn, (cell_stay (hs _ h.rk)).trans h.ck, (cell_stay (hs _ h.rd)).trans h.cd⟩
/-- Where the blocks lie. -/
structure WI (Wg C : Nat) (Rd S : Nat → Prop) (w : World) : Prop where
  wg : Wg < w.heap.size ∧ ¬ S Wg
  c : C < w.heap.size ∧ ¬ S C
  cw : C ≠ Wg
  s : ∀ b, S b → b < w.heap.size
  rd : ∀ b, Rd b → b < w.heap.size ∧ ¬ S b ∧ b ≠ C
theorem WI.rely (h : WI Wg C Rd S w) (hs : w.heap.size ≤ w₁.heap.size) : WI Wg C Rd S w₁ :=
  ⟨⟨Nat.lt_of_lt_of_le h.wg.1 hs, h.wg.2⟩, ⟨Nat.lt_of_lt_of_le h.c.1 hs, h.c.2⟩, h.cw, fun b hb => Nat.lt_of_lt_of_le (h.s b hb) hs, fun b hb => ⟨Nat.lt_of_lt_of_le (h.rd b hb).1 hs, (h.rd b hb).2⟩⟩
theorem WI.own (h : WI Wg C Rd S w) (hs : w.heap.size ≤ w'.heap.size) (ho : ∀ b, S' b ↔ S b ∨ (w.heap.size ≤ b ∧ b < w'.heap.size)) : WI Wg C Rd S' w' := by
  have no : ∀ b, b < w.heap.size → ¬ S b → ¬ S' b := fun b hb hn hs' => ((ho b).1 hs').elim hn fun h => by omega
  refine ⟨⟨Nat.lt_of_lt_of_le h.wg.1 hs, no _ h.wg.1 h.wg.2⟩, ⟨Nat.lt_of_lt_of_le h.c.1 hs, no _ h.c.1 h.c.2⟩, h.cw, fun b hb => ?_, fun b hb => ⟨Nat.lt_of_lt_of_le (h.rd b hb).1 hs, no _ (h.rd b hb).1 (h.rd b hb).2.1, (h.rd b hb).2.2⟩⟩
  rcases (ho b).1 hb with h1 | ⟨_, h1⟩
  · exact Nat.lt_of_lt_of_le (h.s b h1) hs
  · exact h1
/-- What a worker knows at every step. -/
structure WInv (ty : TypeId) (Wg C : Nat) (bw bf b1 bn bk bd : Nat) (n k j : Nat) (fd : FuncId) (capd : Array Value) (Rd S : Nat → Prop) (w : World) : Prop where
  geo : WI Wg C Rd S w
  live : WgLive ty Wg w
  fac : WkF Wg bw bf b1 bn bk bd n k j fd capd Rd w
theorem WInv.rely (r : RW ty Wg C mine Rd S w w₁) (h : WInv ty Wg C bw bf b1 bn bk bd n k j fd capd Rd S w) : WInv ty Wg C bw bf b1 bn bk bd n k j fd capd Rd S w₁ := ⟨h.geo.rely r.size, r.live h.live, h.fac.stay r.rd⟩
theorem WInv.own (d : DW Wg C mine Rd S w w' es S') (h : WInv ty Wg C bw bf b1 bn bk bd n k j fd capd Rd S w) : WInv ty Wg C bw bf b1 bn bk bd n k j fd capd Rd S' w' :=
  ⟨h.geo.own d.size d.own, live_of_block (d.old _ h.geo.wg.1 h.geo.wg.2 (Ne.symm h.geo.cw)) h.live, h.fac.stay fun b hb => d.old b (h.geo.rd b hb).1 (h.geo.rd b hb).2.1 (h.geo.rd b hb).2.2⟩
theorem ev_rd {b o : Nat} (h : Rd b) : EvS Rd S ⟨.cell ⟨b, o, none⟩, false, false⟩ := .inl ⟨_, rfl, .inr ⟨h, rfl⟩, rfl⟩
end
theorem ev_neq_nil (w : World) : (binOp .neq 20 .nilIface .nilIface).events Try.prog w #[] = #[] := by kernel_rfl
theorem nm_go1 : (Try.f141.name == "runtime.NumGoroutine") = false := by kernel_rfl
theorem nm_go11 : (Try.f142.name == "runtime.NumGoroutine") = false := by kernel_rfl
theorem nm_sw1 : (Try.f126.name == "runtime.NumGoroutine") = false := by kernel_rfl
section
variable {Wg C bw bf b1 bn bk bd n k j : Nat} {fd : FuncId} {capd : Array Value} {Rd mine : Nat → Prop} {Fact : (Nat → Prop) → World → Prop}
set_option maxRecDepth 100000 in
set_option maxHeartbeats 4000000 in
/-- The way out: the release, and what is behind it. -/
theorem worker_done (hFst : ∀ S w w₁, RW link.tWg Wg C mine Rd S w w₁ → Fact S w → Fact S w₁) {S : Nat → Prop} {w : World} {T : Array Value} {todo : List Item} (hT : T.size = 5)
    (hI : WInv link.tWg Wg C bw bf b1 bn bk bd n k j fd capd Rd S w) (hfact : Fact S w) :
    GW Try.prog link.tWg Wg C mine Rd (fun S g w => Fact S w ∧ KR Try.prog link.tWg Wg (RW link.tWg Wg C mine Rd S) g w) S
      (G { (baseD 141).at ⟨T, [dclos 142 #[ptr bw]]⟩ todo with mode := .returning } [bot Try.prog]) w := by
  have hF : WInv link.tWg Wg C bw bf b1 bn bk bd n k j fd capd Rd S w ∧ Fact S w := ⟨hI, hfact⟩
  have rl : ∀ {a b : World}, WInv link.tWg Wg C bw bf b1 bn bk bd n k j fd capd Rd S a ∧ Fact S a → RW link.tWg Wg C mine Rd S a b → WInv link.tWg Wg C bw bf b1 bn bk bd n k j fd capd Rd S b ∧ Fact S b := fun h r => ⟨h.1.rely r, hFst _ _ _ r h.2⟩
  refine gw_seg (n := 40) ?_
  u_in rl hF
  rw [stepG_unwind_closure rfl Try.func142 nm_go11 rfl]
  simp only [goes_go]
  refine ⟨by (refine de1_none ?_; intro e he; simp at he), ?_⟩
  walk_nrmf Try.f142
  (u_in rl hF; rw [stepG_seq]; simp only [goes_go]; refine ⟨by (refine de1_none ?_; intro e he; simp at he), ?_⟩)
  (u_in rl hF; rw [stepG_seq]; simp only [goes_go]; refine ⟨by (refine de1_none ?_; intro e he; simp at he), ?_⟩)
  (u_in rl hF; rw [stepG_region]; simp only [goes_go, List.size_toArray, List.length_cons, List.length_nil, Nat.reduceAdd, Nat.zero_add, List.range, List.range.loop]; refine ⟨by (refine de1_none ?_; intro e he; simp at he), ?_⟩)
  u_in rl hF
  rw [stepG_recover rfl rfl rfl rfl rfl rfl]
  simp only [goes_go]
  refine ⟨by (refine de1_none ?_; intro e he; simp at he), ?_⟩
  walk_nrm
  u_in rl hF
  refine goes_oper_k rfl rfl (by k_ne) (fun K hK => ?_)
  go_simp
  refine hK _ _ ⟨?_, ?_⟩
  · refine de1_none ?_
    intro e he
    have hm := mem_listed he
    simp [go_sem, *] at hm
  clear hK K
  try w_num
  (u_in rl hF; rw [stepG_region_end]; simp only [goes_go]; refine ⟨by (refine de1_none ?_; intro e he; simp at he), ?_⟩)
  (u_in rl hF; rw [stepG_seq]; simp only [goes_go]; refine ⟨by (refine de1_none ?_; intro e he; simp at he), ?_⟩)
  (u_in rl hF; rw [stepG_region]; simp only [goes_go, List.size_toArray, List.length_cons, List.length_nil, Nat.reduceAdd, Nat.zero_add, List.range, List.range.loop]; refine ⟨by (refine de1_none ?_; intro e he; simp at he), ?_⟩)
  u_in rl hF
  refine goes_oper_k rfl rfl (by k_ne) (fun K hK => ?_)
  go_simp
  refine hK _ _ ⟨?_, ?_⟩
  · refine de1_none ?_
    intro e he
    have hm := mem_listed he
    simp [go_sem, *] at hm
  clear hK K
  try w_num
  have hev := ev_neq_nil
  u_in rl hF
  refine goes_oper_k rfl rfl (by k_ne) (fun K hK => ?_)
  go_simp
  refine hK _ _ ⟨?_, ?_⟩
  · refine de1_none ?_
    intro e he
    have hm := mem_listed he
    simp [go_sem, *] at hm
  clear hK K
  try w_num
  clear hev
  (u_in rl hF; rw [stepG_region_end]; simp only [goes_go]; refine ⟨by (refine de1_none ?_; intro e he; simp at he), ?_⟩)
  (u_in rl hF; rw [stepG_cond (t := false) rfl]; simp only [goes_go, if_true, if_false, Bool.false_eq_true, ↓reduceIte]; refine ⟨by (refine de1_none ?_; intro e he; simp at he), ?_⟩)
  (u_in rl hF; rw [stepG_skip]; simp only [goes_go]; refine ⟨by (refine de1_none ?_; intro e he; simp at he), ?_⟩)
  (u_in rl hF; rw [stepG_region]; simp only [goes_go, List.size_toArray, List.length_cons, List.length_nil, Nat.reduceAdd, Nat.zero_add, List.range, List.range.loop]; refine ⟨by (refine de1_none ?_; intro e he; simp at he), ?_⟩)
  g_opw rl hF [hF.1.fac.cw] rfl (ev_rd hF.1.fac.rw)
  u_in rl hF
  refine goes_call rfl rfl (by k_ne) rfl wgLib.f_done (nm_done link) rfl ⟨by (refine de1_none ?_; intro e he; simp at he), ?_⟩
  walk_nrmf doneFn
  refine Goes.stop (fun w₂ h₂ => ?_)
  replace hF := rl hF h₂
  clear h₂
  have hD := @doneW link Try.prog (RW link.tWg Wg C mine Rd S) Wg
  simp only [body_done, doneFn, Option.getD_some] at hD
  refine Go1.of_goes (R₁ := RW link.tWg Wg C mine Rd S) (D₁ := DC0) (n := 23) (fun _ _ h => h) (fun a b es h => dw_same ⟨h.1, by rw [h.2]; simp⟩) (fun g w h => h) (goes_keep (I := Fact S) (fun a b r h => hFst _ _ _ r h) hF.2 (hD (qt := 5) wgLib (fun a b r h => r.live h) ?_ w₂ hF.1.live))
  q_c stepG_region_end
  q_c stepG_end
  refine QuitsD.leaveD rfl rfl Try.func142 rfl rfl ?_
  q_c (stepG_leave_bot rfl rfl Try.func141 rfl)
  q_c stepG_bot
  exact ⟨rfl, rfl⟩
end
end Go.Proofs.Ytmmolicodlmlkaa.Ph
namespace Go.Proofs.Ytmmolicodlmlkaa.Ph
open Go.Conc Go.ConcN Go.RowKit Go.Conc.Lib Go.ConcR.Gen Go.ConcN.Gen
open Go.ConcR (KK wgBlock WgAt stA smA rd wr mk DC0 Payload)
open Go.Proofs.Ytmmolicodlmlkaa.Rel (RS DS EvS Tr Sub GoT Go1)
set_option linter.unusedVariables false
set_option linter.unusedSimpArgs false

noncomputable def lw : Code := match Try.f126.body with | some (.seq _ (.block _ (.loop c))) => c | _ => .skip
section
variable {Wg C bw bf b1 bn bk bd n k j : Nat} {fd : FuncId} {fn : Func} {code : Code} {capd : Array Value} {Rd mine : Nat → Prop} {J : Nat → (Nat → Prop) → World → Prop} {Stop : (Nat → Prop) → Goroutine → World → Prop}
  {b₀ : Frame} {a₀ : Act} {ops₀ : Array Oper} {i₀ : Nat} {rest₀ : List Nat} {k₀ : List Item} {cs : List Frame}
set_option maxRecDepth 100000 in
set_option maxHeartbeats 4000000 in
theorem worker_loop (hn : n < 4294967296) (hk : 1 ≤ k ∧ k < 4294967296) (hfn : Try.prog.funcs[fd]? = some fn) (hnm : (fn.name == "runtime.NumGoroutine") = false) (hbd : fn.body = some code)
    (hJ : ∀ i S a b, RW link.tWg Wg C mine Rd S a b → J i S a → J i S b)
    (hdo : ∀ (i : Nat) (S : Nat → Prop) (w : World) (b : Frame) (a : Act) (ops : Array Oper) (x : Nat) (rest : List Nat) (kk : List Item) (cs : List Frame), i < n → WInv link.tWg Wg C bw bf b1 bn bk bd n k j fd capd Rd S w → J i S w →
      GW Try.prog link.tWg Wg C mine Rd (fun S' g' w' => g' = G (b.at (a.put ((ops[x]?).bind (·.dst)) (.tuple #[])) (.inRegion ops rest :: kk)) cs ∧ J (i + k) S' w') S (G (Frame.enter Try.prog fd (#[.int .i64 i] ++ capd) .normal) (b.at a (.inRegion ops (x :: rest) :: kk) :: cs)) w)
    (hend : ∀ i S w, n ≤ i → WInv link.tWg Wg C bw bf b1 bn bk bd n k j fd capd Rd S w → J i S w → GW Try.prog link.tWg Wg C mine Rd Stop S (G (b₀.at (a₀.put ((ops₀[i₀]?).bind (·.dst)) (.tuple #[])) (.inRegion ops₀ rest₀ :: k₀)) cs) w) :
    ∀ (m i : Nat), n ≤ i + m → i < 8589934592 → ∀ (S : Nat → Prop) (w : World) (v5 v6 v7 v8 v9 v10 v11 v12 v13 v14 : Value), WInv link.tWg Wg C bw bf b1 bn bk bd n k j fd capd Rd S w → J i S w →
      GW Try.prog link.tWg Wg C mine Rd Stop S (G ((base 126).at ⟨#[ptr b1, ptr bn, ptr bk, ptr bd, .int .i64 i, v5, v6, v7, v8, v9, v10, v11, v12, v13, v14], []⟩ [.code lw, .inLoop lw, .inBlock 0]) (b₀.at a₀ (.inRegion ops₀ (i₀ :: rest₀) :: k₀) :: cs)) w := by
  intro m
  induction m with
  | zero | succ m ih => ?_
  all_goals
    intro i hm hi8 S w v5 v6 v7 v8 v9 v10 v11 v12 v13 v14 hI hj
    have hF : WInv link.tWg Wg C bw bf b1 bn bk bd n k j fd capd Rd S w ∧ J i S w := ⟨hI, hj⟩
    clear hI hj
    have rl : ∀ {a b : World}, WInv link.tWg Wg C bw bf b1 bn bk bd n k j fd capd Rd S a ∧ J i S a → RW link.tWg Wg C mine Rd S a b → WInv link.tWg Wg C bw bf b1 bn bk bd n k j fd capd Rd S b ∧ J i S b := fun h r => ⟨h.1.rely r, hJ _ _ _ _ r h.2⟩
    refine gw_seg (n := 40) ?_
    simp only [lw, Try.f126]
    (u_in rl hF; rw [stepG_seq]; simp only [goes_go]; refine ⟨by (refine de1_none ?_; intro e he; simp at he), ?_⟩)
    (u_in rl hF; rw [stepG_seq]; simp only [goes_go]; refine ⟨by (refine de1_none ?_; intro e he; simp at he), ?_⟩)
    (u_in rl hF; rw [stepG_region]; simp only [goes_go, List.size_toArray, List.length_cons, List.length_nil, Nat.reduceAdd, Nat.zero_add, List.range, List.range.loop]; refine ⟨by (refine de1_none ?_; intro e he; simp at he), ?_⟩)
    u_in rl hF
    refine goes_oper_k rfl rfl (by k_ne) (fun K hK => ?_)
    go_simp
    refine hK _ _ ⟨?_, ?_⟩
    · refine de1_none ?_
      intro e he
      have hm := mem_listed he
      simp [go_sem, *] at hm
    clear hK K
    try w_num
    g_opw rl hF [hF.1.fac.cn] rfl (ev_rd hF.1.fac.rn)
    u_in rl hF
    refine goes_oper_k rfl rfl (by k_ne) (fun K hK => ?_)
    go_simp
    refine hK _ _ ⟨?_, ?_⟩
    · refine de1_none ?_
      intro e he
      have hm := mem_listed he
      simp [go_sem, *] at hm
    clear hK K
    try w_num
    (u_in rl hF; rw [stepG_region_end]; simp only [goes_go]; refine ⟨by (refine de1_none ?_; intro e he; simp at he), ?_⟩)
    by_cases hin : i < n
    rotate_left
    · -- none is left
      (u_in rl hF; rw [stepG_cond (t := false) (by first | rfl | (simp [Act.eval]; omega))]; simp only [goes_go, if_true, if_false, Bool.false_eq_true, ↓reduceIte]; refine ⟨by (refine de1_none ?_; intro e he; simp at he), ?_⟩)
      (u_in rl hF; refine goes_exit rfl ?_; refine ⟨by (refine de1_none ?_; intro e he; simp at he), ?_⟩)
      (u_in rl hF; rw [stepG_end]; simp only [goes_go]; refine ⟨by (refine de1_none ?_; intro e he; simp at he), ?_⟩)
      (u_in rl hF; refine goes_leave0 rfl rfl Try.func126 rfl ⟨by (refine de1_none ?_; intro e he; simp at he), ?_⟩; walk_nrm)
      exact Goes.stop fun w₁ h₁ => hend i S w₁ (by omega) (rl hF h₁).1 (rl hF h₁).2
  · omega
  · (u_in rl hF; rw [stepG_cond (t := true) (by first | rfl | (simp [Act.eval]; omega))]; simp only [goes_go, if_true, if_false, Bool.false_eq_true, ↓reduceIte]; refine ⟨by (refine de1_none ?_; intro e he; simp at he), ?_⟩)
    (u_in rl hF; rw [stepG_skip]; simp only [goes_go]; refine ⟨by (refine de1_none ?_; intro e he; simp at he), ?_⟩)
    (u_in rl hF; rw [stepG_seq]; simp only [goes_go]; refine ⟨by (refine de1_none ?_; intro e he; simp at he), ?_⟩)
    (u_in rl hF; rw [stepG_block]; simp only [goes_go]; refine ⟨by (refine de1_none ?_; intro e he; simp at he), ?_⟩)
    (u_in rl hF; rw [stepG_region]; simp only [goes_go, List.size_toArray, List.length_cons, List.length_nil, Nat.reduceAdd, Nat.zero_add, List.range, List.range.loop]; refine ⟨by (refine de1_none ?_; intro e he; simp at he), ?_⟩)
    g_opw rl hF [hF.1.fac.cd] rfl (ev_rd hF.1.fac.rd)
    u_in rl hF
    refine goes_oper_k rfl rfl (by k_ne) (fun K hK => ?_)
    go_simp
    refine hK _ _ ⟨?_, ?_⟩
    · refine de1_none ?_
      intro e he
      have hm := mem_listed he
      simp [go_sem, *] at hm
    clear hK K
    try w_num
    u_in rl hF
    rw [stepG_call_closure (cap := capd) (f := fd) rfl rfl (by k_ne) rfl rfl hfn hnm hbd]
    simp only [goes_go]
    refine ⟨by (refine de1_none ?_; intro e he; simp at he), ?_⟩
    walk_nrm
    refine Goes.stop fun w₁ h₁ => ?_
    replace hF := rl hF h₁
    clear h₁
    refine Go1.bind (fun _ a => RW.refl a) (go1_keep (I := fun S w => WInv link.tWg Wg C bw bf b1 bn bk bd n k j fd capd Rd S w) (fun _ _ _ r h => h.rely r) (fun _ _ _ _ _ d h => h.own d) hF.1 (hdo i S w₁ _ _ _ _ _ _ _ hin hF.1 hF.2)) ?_
    rintro S' g' w' ⟨hI', rfl, hj'⟩
    clear hF rl
    have hF : WInv link.tWg Wg C bw bf b1 bn bk bd n k j fd capd Rd S' w' ∧ J (i + k) S' w' := ⟨hI', hj'⟩
    have rl : ∀ {a b : World}, WInv link.tWg Wg C bw bf b1 bn bk bd n k j fd capd Rd S' a ∧ J (i + k) S' a → RW link.tWg Wg C mine Rd S' a b → WInv link.tWg Wg C bw bf b1 bn bk bd n k j fd capd Rd S' b ∧ J (i + k) S' b := fun h r => ⟨h.1.rely r, hJ _ _ _ _ r h.2⟩
    refine gw_seg (n := 40) ?_
    walk_nrm
    (u_in rl hF; rw [stepG_region_end]; simp only [goes_go]; refine ⟨by (refine de1_none ?_; intro e he; simp at he), ?_⟩)
    (u_in rl hF; rw [stepG_inBlock]; simp only [goes_go]; refine ⟨by (refine de1_none ?_; intro e he; simp at he), ?_⟩)
    (u_in rl hF; rw [stepG_region]; simp only [goes_go, List.size_toArray, List.length_cons, List.length_nil, Nat.reduceAdd, Nat.zero_add, List.range, List.range.loop]; refine ⟨by (refine de1_none ?_; intro e he; simp at he), ?_⟩)
    u_in rl hF
    refine goes_oper_k rfl rfl (by k_ne) (fun K hK => ?_)
    go_simp
    refine hK _ _ ⟨?_, ?_⟩
    · refine de1_none ?_
      intro e he
      have hm := mem_listed he
      simp [go_sem, *] at hm
    clear hK K
    try w_num
    g_opw rl hF [hF.1.fac.ck] rfl (ev_rd hF.1.fac.rk)
    have hw : IntKind.i64.wrap ((i : Int) + (k : Int)) = ((i + k : Nat) : Int) := by rw [IntKind.wrap_i64]; omega
    u_in rl hF
    refine goes_oper_k rfl rfl (by k_ne) (fun K hK => ?_)
    go_simp
    refine hK _ _ ⟨?_, ?_⟩
    · refine de1_none ?_
      intro e he
      have hm := mem_listed he
      simp [go_sem, *] at hm
    clear hK K
    try w_num
    u_in rl hF
    refine goes_oper_k rfl rfl (by k_ne) (fun K hK => ?_)
    go_simp
    refine hK _ _ ⟨?_, ?_⟩
    · refine de1_none ?_
      intro e he
      have hm := mem_listed he
      simp [go_sem, *] at hm
    clear hK K
    try w_num
    (u_in rl hF; rw [stepG_region_end]; simp only [goes_go]; refine ⟨by (refine de1_none ?_; intro e he; simp at he), ?_⟩)
    (u_in rl hF; rw [stepG_inLoop]; simp only [goes_go]; refine ⟨by (refine de1_none ?_; intro e he; simp at he), ?_⟩)
    refine Goes.stop fun w₂ h₂ => ?_
    have hx := ih (i + k) (by omega) (by omega) S' w₂
    simp only [lw, Try.f126] at hx
    exact hx _ _ _ _ _ _ _ _ _ _ (rl hF h₂).1 (rl hF h₂).2
set_option maxRecDepth 100000 in
set_option maxHeartbeats 4000000 in
/-- THE WHOLE WORKER. -/
theorem worker {Fact : (Nat → Prop) → World → Prop} (hn : n < 4294967296) (hk : 1 ≤ k ∧ k < 4294967296) (hjk : j < k) (hfn : Try.prog.funcs[fd]? = some fn) (hnm : (fn.name == "runtime.NumGoroutine") = false) (hbd : fn.body = some code)
    (hJ : ∀ i S a b, RW link.tWg Wg C mine Rd S a b → J i S a → J i S b) (hFst : ∀ S w w₁, RW link.tWg Wg C mine Rd S w w₁ → Fact S w → Fact S w₁)
    (hdo : ∀ (i : Nat) (S : Nat → Prop) (w : World) (b : Frame) (a : Act) (ops : Array Oper) (x : Nat) (rest : List Nat) (kk : List Item) (cs : List Frame), i < n → WInv link.tWg Wg C bw bf b1 bn bk bd n k j fd capd Rd S w → J i S w →
      GW Try.prog link.tWg Wg C mine Rd (fun S' g' w' => g' = G (b.at (a.put ((ops[x]?).bind (·.dst)) (.tuple #[])) (.inRegion ops rest :: kk)) cs ∧ J (i + k) S' w') S (G (Frame.enter Try.prog fd (#[.int .i64 i] ++ capd) .normal) (b.at a (.inRegion ops (x :: rest) :: kk) :: cs)) w)
    (hend : ∀ i S w, n ≤ i → J i S w → Fact S w) {S : Nat → Prop} {w : World} (hI : WInv link.tWg Wg C bw bf b1 bn bk bd n k j fd capd Rd S w) (hj : J j S w) :
    GW Try.prog link.tWg Wg C mine Rd (fun S g w => Fact S w ∧ KR Try.prog link.tWg Wg (RW link.tWg Wg C mine Rd S) g w) S (born Try.prog (dclos 141 #[ptr bw, ptr bf])) w := by
  have hF : WInv link.tWg Wg C bw bf b1 bn bk bd n k j fd capd Rd S w ∧ J j S w := ⟨hI, hj⟩
  have rl : ∀ {a b : World}, WInv link.tWg Wg C bw bf b1 bn bk bd n k j fd capd Rd S a ∧ J j S a → RW link.tWg Wg C mine Rd S a b → WInv link.tWg Wg C bw bf b1 bn bk bd n k j fd capd Rd S b ∧ J j S b := fun h r => ⟨h.1.rely r, hJ _ _ _ _ r h.2⟩
  refine Go1.step rfl fun w₁ h₁ => ⟨_, w₁, #[], S, stepG_born Try.func141 nm_go1 rfl, dw_same ⟨rfl, by simp⟩, ?_⟩
  replace hF := rl hF h₁
  clear h₁
  refine gw_seg (n := 40) ?_
  walk_nrmf Try.f141
  (u_in rl hF; rw [stepG_seq]; simp only [goes_go]; refine ⟨by (refine de1_none ?_; intro e he; simp at he), ?_⟩)
  (u_in rl hF; rw [stepG_region]; simp only [goes_go, List.size_toArray, List.length_cons, List.length_nil, Nat.reduceAdd, Nat.zero_add, List.range, List.range.loop]; refine ⟨by (refine de1_none ?_; intro e he; simp at he), ?_⟩)
  u_in rl hF
  refine goes_oper_k rfl rfl (by k_ne) (fun K hK => ?_)
  go_simp
  refine hK _ _ ⟨?_, ?_⟩
  · refine de1_none ?_
    intro e he
    have hm := mem_listed he
    simp [go_sem, *] at hm
  clear hK K
  try w_num
  u_in rl hF
  rw [stepG_defer_closure (f := 142) (cap := #[ptr bw]) rfl rfl (by k_ne) rfl rfl]
  simp only [goes_go]
  refine ⟨by (refine de1_none ?_; intro e he; simp at he), ?_⟩
  walk_nrm
  (u_in rl hF; rw [stepG_region_end]; simp only [goes_go]; refine ⟨by (refine de1_none ?_; intro e he; simp at he), ?_⟩)
  (u_in rl hF; rw [stepG_region]; simp only [goes_go, List.size_toArray, List.length_cons, List.length_nil, Nat.reduceAdd, Nat.zero_add, List.range, List.range.loop]; refine ⟨by (refine de1_none ?_; intro e he; simp at he), ?_⟩)
  g_opw rl hF [hF.1.fac.cf] rfl (ev_rd hF.1.fac.rf)
  u_in rl hF
  rw [stepG_call_closure (f := 126) (cap := #[ptr b1, ptr bn, ptr bk, ptr bd]) rfl rfl (by k_ne) rfl rfl Try.func126 nm_sw1 rfl, enter_at _ Try.func126 rfl]
  simp only [goes_go]
  refine ⟨by (refine de1_none ?_; intro e he; simp at he), ?_⟩
  walk_nrmf Try.f126
  (u_in rl hF; rw [stepG_seq]; simp only [goes_go]; refine ⟨by (refine de1_none ?_; intro e he; simp at he), ?_⟩)
  (u_in rl hF; rw [stepG_region]; simp only [goes_go, List.size_toArray, List.length_cons, List.length_nil, Nat.reduceAdd, Nat.zero_add, List.range, List.range.loop]; refine ⟨by (refine de1_none ?_; intro e he; simp at he), ?_⟩)
  g_opw rl hF [hF.1.fac.c1] rfl (ev_rd hF.1.fac.r1)
  u_in rl hF
  refine goes_oper_k rfl rfl (by k_ne) (fun K hK => ?_)
  go_simp
  refine hK _ _ ⟨?_, ?_⟩
  · refine de1_none ?_
    intro e he
    have hm := mem_listed he
    simp [go_sem, *] at hm
  clear hK K
  try w_num
  (u_in rl hF; rw [stepG_region_end]; simp only [goes_go]; refine ⟨by (refine de1_none ?_; intro e he; simp at he), ?_⟩)
  (u_in rl hF; rw [stepG_block]; simp only [goes_go]; refine ⟨by (refine de1_none ?_; intro e he; simp at he), ?_⟩)
  (u_in rl hF; rw [stepG_loop]; simp only [goes_go]; refine ⟨by (refine de1_none ?_; intro e he; simp at he), ?_⟩)
  refine Goes.stop fun w₁ h₁ => ?_
  replace hF := rl hF h₁
  clear h₁ rl
  refine worker_loop hn hk hfn hnm hbd hJ hdo ?_ (n - j) j (by omega) (by omega) S w₁ _ _ _ _ _ _ _ _ _ _ hF.1 hF.2
  intro i S w hi hI hj
  have hF : WInv link.tWg Wg C bw bf b1 bn bk bd n k j fd capd Rd S w ∧ J i S w := ⟨hI, hj⟩
  have rl : ∀ {a b : World}, WInv link.tWg Wg C bw bf b1 bn bk bd n k j fd capd Rd S a ∧ J i S a → RW link.tWg Wg C mine Rd S a b → WInv link.tWg Wg C bw bf b1 bn bk bd n k j fd capd Rd S b ∧ J i S b := fun h r => ⟨h.1.rely r, hJ _ _ _ _ r h.2⟩
  refine gw_seg (n := 4) ?_
  walk_nrm
  (u_in rl hF; rw [stepG_region_end]; simp only [goes_go]; refine ⟨by (refine de1_none ?_; intro e he; simp at he), ?_⟩)
  (u_in rl hF; rw [stepG_end]; simp only [goes_go]; refine ⟨by (refine de1_none ?_; intro e he; simp at he), ?_⟩)
  refine Goes.stop fun w₂ h₂ => ?_
  exact worker_done hFst (by rfl) (rl hF h₂).1 (hend i S w₂ hi (rl hF h₂).2)
end
end Go.Proofs.Ytmmolicodlmlkaa.Ph
namespace Go.Proofs.Ytmmolicodlmlkaa.Ph
open Go.Conc Go.ConcN Go.RowKit Go.Conc.Lib Go.ConcR.Gen Go.ConcN.Gen
open Go.ConcR (KK wgBlock WgAt stA smA rd wr mk DC0 Payload)
open Go.Proofs.Ytmmolicodlmlkaa.Rel (RS DS EvS Tr Sub GoT Go1)
set_option linter.unusedVariables false
set_option linter.unusedSimpArgs false

section
variable {P : Program} {ty : TypeId} {Wg C : Nat} {Rm S : Nat → Prop} {Stop : (Nat → Prop) → Goroutine → World → Prop} {g g' : Goroutine} {w : World}
theorem DM.of_dc0 {a b : World} {es : Array Event} (h : DC0 a b es) : DM Wg Rm S a b es S := by
  obtain ⟨rfl, rfl⟩ := h
  exact ⟨rfl, rfl, rfl, Nat.le_refl _, fun b => ⟨.inl, fun h => h.elim id fun h => by omega⟩, fun _ _ _ => rfl, by simp⟩
theorem dm_said {e : Event} (he : e = mk (.read (smA Wg)) ∨ e = mk (.write (smA Wg))) : DM Wg Rm S w w #[e] S :=
  ⟨rfl, rfl, rfl, Nat.le_refl _, fun b => ⟨.inl, fun h => h.elim id fun h => by omega⟩, fun _ _ _ => rfl, fun x hx => by simp at hx; subst hx; exact .inr he⟩
theorem gm_last {n : Nat} (h : Goes P true (RM ty Wg C Rm S) DC0 (Stop S) n g w) : GM P ty Wg C Rm Stop S g w := Go1.of_goes (fun _ _ h => h) (fun _ _ _ h => DM.of_dc0 h) (fun _ _ h => h) h
theorem gm_seg {n : Nat} (h : Goes P true (RM ty Wg C Rm S) DC0 (fun g w => GM P ty Wg C Rm Stop S g w) n g w) : GM P ty Wg C Rm Stop S g w :=
  Go1.bind (fun _ a => RM.refl a) (Go1.of_goes (Stop := fun S g w => GM P ty Wg C Rm Stop S g w) (fun _ _ h => h) (fun _ _ _ h => DM.of_dc0 h) (fun _ _ h => h) h) fun _ _ _ h => h
theorem gm_said {e : Event} (hr : g.status = .running) (h : ∀ w₁, RM ty Wg C Rm S w w₁ → stepG P true g w₁ = .go g' w₁ #[e]) (he : e = mk (.read (smA Wg)) ∨ e = mk (.write (smA Wg))) (k : ∀ w₁, RM ty Wg C Rm S w w₁ → GM P ty Wg C Rm Stop S g' w₁) : GM P ty Wg C Rm Stop S g w :=
  Go1.step hr fun w₁ h₁ => ⟨g', w₁, #[e], S, h w₁ h₁, dm_said he, k w₁ h₁⟩
end
section
variable {L : WgLink} {P : Program} {Wg C : Nat} {Rm S : Nat → Prop} {F : World → Prop} {mine : Nat → Nat → Prop} {Fact : Nat → (Nat → Prop) → World → Prop} {j : Nat} {Next : (Nat → Prop) → (Nat → Prop) → Goroutine → World → Prop}
  {b₀ : Frame} {a₀ : Act} {ops₀ : Array Oper} {i₀ : Nat} {rest₀ : List Nat} {k₀ : List Item} {cs : List Frame}
theorem flR (hF1 : ∀ a b, RM L.tWg Wg C Rm S a b → F a → F b) {w w₁ : World} (h : F w ∧ WgLive L.tWg Wg w) (r : RM L.tWg Wg C Rm S w w₁) : F w₁ ∧ WgLive L.tWg Wg w₁ := ⟨hF1 _ _ r h.1, r.live h.2⟩
set_option maxRecDepth 100000 in
set_option maxHeartbeats 8000000 in
theorem addPos (H : WgLib P L) (hF1 : ∀ a b, RM L.tWg Wg C Rm S a b → F a → F b) (hF2 : ∀ a b, Aside Wg a b → F a → F b)
    (hT : ∀ w, F w → WgLive L.tWg Wg w → GM P L.tWg Wg C Rm (MGo P L.tWg Wg C mine Fact j Next Rm) S (G (b₀.at (a₀.put ((ops₀[i₀]?).bind (·.dst)) (.tuple #[])) (.inRegion ops₀ rest₀ :: k₀)) cs) w) (w : World) (hK : F w ∧ WgLive L.tWg Wg w) :
    GM P L.tWg Wg C Rm (MKdS P L.tWg Wg C mine Fact j Next Rm) S (G ((base L.add).at ⟨#[.pointer (some ⟨Wg, 0, none⟩), .int .i64 1, undef, undef, undef, undef, undef, undef, undef, undef, undef, undef, undef, undef, undef, undef, undef, undef, undef, undef, undef, undef, undef, undef, undef, undef, undef, undef, undef, undef, undef, undef, undef, undef, undef, undef, undef, undef, undef, undef, undef, undef, undef, undef, undef, undef, undef, undef, undef, undef, undef, undef, undef, undef, undef, undef, undef, undef, undef, undef, undef, undef, undef, undef, undef, undef, undef, undef, undef, undef, undef, undef, undef, undef, undef, undef, undef, undef, undef, undef, undef, undef, undef, undef, undef, undef, undef, undef, undef, undef, undef, undef, undef, undef, undef, undef, undef, undef, undef, undef, undef, undef, undef, undef, undef, undef, undef, undef, undef, undef, undef, undef, undef, undef, undef, undef, undef], []⟩ [.code (body_add L)]) (b₀.at a₀ (.inRegion ops₀ (i₀ :: rest₀) :: k₀) :: cs)) w := by
  lib_facts
  refine gm_last (n := 12) ?_
  simp only [body_add, addFn, Option.getD_some]
  u_c stepG_seq (flR hF1) hK
  u_cond true (flR hF1) hK
  u_c stepG_seq (flR hF1) hK
  u_c stepG_seq (flR hF1) hK
  u_reg (flR hF1) hK
  u_op (flR hF1) hK
  u_op (flR hF1) hK
  u_c stepG_region_end (flR hF1) hK
  u_cond false (flR hF1) hK
  u_c stepG_skip (flR hF1) hK
  u_c stepG_seq (flR hF1) hK
  u_reg (flR hF1) hK
  refine Goes.stop (fun w₁ h₁ => ?_)
  replace hK := flR hF1 hK h₁
  clear h₁
  refine ⟨rfl, _, stepG_mark0 .disable (by simp) rfl rfl (by k_ne) rfl H.f_disable (x_disable_n L) (x_disable_b L) (x_disable_x L) (x_disable_f L), gm_last (n := 40) ?_⟩
  walk_nrm
  u_c stepG_region_end (flR hF1) hK
  u_reg (flR hF1) hK
  u_defer (flR hF1) hK
  u_c stepG_region_end (flR hF1) hK
  u_c stepG_seq (flR hF1) hK
  u_reg (flR hF1) hK
  u_op (flR hF1) hK
  u_c stepG_region_end (flR hF1) hK
  u_c stepG_seq (flR hF1) hK
  u_c stepG_seq (flR hF1) hK
  u_reg (flR hF1) hK
  u_bub (flR hF1) hK
  u_c stepG_region_end (flR hF1) hK
  u_cond false (flR hF1) hK
  u_c stepG_skip (flR hF1) hK
  u_c stepG_seq (flR hF1) hK
  u_reg (flR hF1) hK
  u_op (flR hF1) hK
  u_op (flR hF1) hK
  u_op (flR hF1) hK
  u_op (flR hF1) hK
  u_op (flR hF1) hK
  u_op (flR hF1) hK
  u_call H.f_uAdd (nm_uAdd L) uAddFn (flR hF1) hK
  u_c stepG_seq (flR hF1) hK
  u_reg (flR hF1) hK
  u_op (flR hF1) hK
  u_c stepG_region_end (flR hF1) hK
  u_c stepG_seq (flR hF1) hK
  u_reg (flR hF1) hK
  u_op (flR hF1) hK
  u_op (flR hF1) hK
  u_op (flR hF1) hK
  u_op (flR hF1) hK
  refine Goes.stop (fun w₂ h₂ => ?_)
  replace hK := flR hF1 hK h₂
  clear h₂
  refine ⟨rfl, fun v hv hw => ?_⟩
  rcases Nat.eq_zero_or_pos v with rfl | hvp
  · replace hw : WgAt L.tWg Wg w₂ 0 0 := by simpa using hw
    have z : (((0 : Nat) : Int) + 1) * KK = KK := by simp
    rw [z]
    have e0 : IntKind.u64.wrap (0 + 4294967296) = KK := by decide
    refine ⟨_, (stepG_add_atomic rfl rfl (by k_ne) rfl H.f_addU64 (x_addU64_n L) (x_addU64_b L) (x_addU64_x L) .u64 (x_addU64_f L) rfl rfl hw.cellSt (hw.thaw 0)).trans (by rw [e0]; rfl), gm_seg (n := 110) ?_⟩
    replace hK : F (w₂.setCell (stA Wg) (.int .u64 KK)) ∧ WgLive L.tWg Wg (w₂.setCell (stA Wg) (.int .u64 KK)) := ⟨hF2 _ _ (aside_setCell w₂ (stA Wg) _) hK.1, ⟨_, _, hw.setSt _⟩⟩
    clear hw
    simp only [KK] at hK ⊢
    walk_nrm
    u_op (flR hF1) hK
    u_c stepG_region_end (flR hF1) hK
    u_c stepG_ret' (flR hF1) hK
    u_leave1 H.f_uAdd (flR hF1) hK
    u_op (flR hF1) hK
    u_c stepG_region_end (flR hF1) hK
    u_c stepG_seq (flR hF1) hK
    u_c stepG_seq (flR hF1) hK
    u_reg (flR hF1) hK
    u_op (flR hF1) hK
    u_op (flR hF1) hK
    u_op (flR hF1) hK
    u_op (flR hF1) hK
    u_skip (flR hF1) hK
    u_skip (flR hF1) hK
    u_op (flR hF1) hK
    u_c stepG_region_end (flR hF1) hK
    u_cond false (flR hF1) hK
    u_c stepG_skip (flR hF1) hK
    u_c stepG_seq (flR hF1) hK
    u_reg (flR hF1) hK
    u_op (flR hF1) hK
    u_op (flR hF1) hK
    u_op (flR hF1) hK
    u_op (flR hF1) hK
    u_c stepG_region_end (flR hF1) hK
    u_c stepG_seq (flR hF1) hK
    u_reg (flR hF1) hK
    u_op (flR hF1) hK
    u_op (flR hF1) hK
    u_op (flR hF1) hK
    u_op (flR hF1) hK
    u_c stepG_region_end (flR hF1) hK
    u_c stepG_seq (flR hF1) hK
    u_c stepG_seq (flR hF1) hK
    u_reg (flR hF1) hK
    u_op (flR hF1) hK
    u_op (flR hF1) hK
    u_op (flR hF1) hK
    u_op (flR hF1) hK
    u_op (flR hF1) hK
    u_op (flR hF1) hK
    u_op (flR hF1) hK
    u_op (flR hF1) hK
    u_op (flR hF1) hK
    u_op (flR hF1) hK
    u_c stepG_region_end (flR hF1) hK
    u_cond true (flR hF1) hK
    u_reg (flR hF1) hK
    u_op (flR hF1) hK
    u_op (flR hF1) hK
    u_op (flR hF1) hK
    u_conv H.underlying_tPU32 H.room_tU32 (WgLive.cell1 hK.2).choose_spec (flR hF1) hK
    refine Goes.stop (fun w₃ h₃ => ?_)
    replace hK := flR hF1 hK h₃
    clear h₃
    refine gm_said (e := mk (.read (smA Wg))) rfl (fun w₄ _ => stepG_markAt .read (by simp) rfl rfl (by k_ne) rfl H.f_raceRead (x_raceRead_n L) (x_raceRead_b L) (x_raceRead_x L) (x_raceRead_f L) (ad := ⟨Wg, 1, none⟩) (by simp [Act.eval])) (.inl rfl) (fun w₄ h₄ => ?_)
    replace hK := flR hF1 hK h₄
    clear h₄
    refine gm_last (n := 90) ?_
    walk_nrm
    u_c stepG_region_end (flR hF1) hK
    u_c stepG_seq (flR hF1) hK
    u_c stepG_seq (flR hF1) hK
    u_reg (flR hF1) hK
    u_op (flR hF1) hK
    u_op (flR hF1) hK
    u_c stepG_region_end (flR hF1) hK
    u_cond false (flR hF1) hK
    u_c stepG_skip (flR hF1) hK
    u_c stepG_seq (flR hF1) hK
    u_c stepG_seq (flR hF1) hK
    u_reg (flR hF1) hK
    u_op (flR hF1) hK
    u_op (flR hF1) hK
    u_op (flR hF1) hK
    u_skip (flR hF1) hK
    u_skip (flR hF1) hK
    u_op (flR hF1) hK
    u_op (flR hF1) hK
    u_skip (flR hF1) hK
    u_skip (flR hF1) hK
    u_skip (flR hF1) hK
    u_skip (flR hF1) hK
    u_op (flR hF1) hK
    u_c stepG_region_end (flR hF1) hK
    u_cond false (flR hF1) hK
    u_c stepG_skip (flR hF1) hK
    u_c stepG_seq (flR hF1) hK
    u_c stepG_seq (flR hF1) hK
    u_reg (flR hF1) hK
    u_op (flR hF1) hK
    u_op (flR hF1) hK
    u_op (flR hF1) hK
    u_skip (flR hF1) hK
    u_skip (flR hF1) hK
    u_op (flR hF1) hK
    u_c stepG_region_end (flR hF1) hK
    u_cond true (flR hF1) hK
    u_c stepG_ret' (flR hF1) hK
    refine Goes.stop (fun w₃ h₃ => ?_)
    replace hK := flR hF1 hK h₃
    clear h₃
    refine ⟨rfl, _, stepG_unwind_entry (v := .tuple #[]) (evs := #[mk .enable]) rfl H.f_enable (x_enable_n L) (x_enable_b L) (x_enable_x L) (x_enable_f L) (by simp [Extern.Race.none_]) (by simp [mk]) (by simp [mk]), gm_seg (n := 1) ?_⟩
    u_leave0 H.f_add (flR hF1) hK
    exact Goes.stop (fun w₄ h₄ => hT _ (flR hF1 hK h₄).1 (flR hF1 hK h₄).2)
  · obtain ⟨V, hV⟩ : ∃ V : Int, V = (v : Int) + 1 := ⟨_, rfl⟩
    obtain ⟨X, hX⟩ : ∃ X : Int, X = V * KK := ⟨_, rfl⟩
    have eX : IntKind.u64.wrap ((v : Int) * KK + 4294967296) = X := by rw [IntKind.wrap_u64, hX, hV]; simp only [KK]; omega
    rw [← hV, ← hX]
    have a1 : X / 4294967296 = V := by rw [hX]; simp only [KK]; omega
    have b1 : bits .and .u64 X 2147483648 = 0 := by rw [hX, hV]; have := st_flag (v + 1) 0 (by omega) (by omega); simpa [KK] using this
    have b2 : bits .and .u64 X 2147483647 = 0 := by rw [hX, hV]; have := st_waiters (v + 1) 0 (by omega) (by omega); simpa [KK] using this
    have c1 : IntKind.i32.wrap V = V := by rw [IntKind.wrap_i32]; omega
    have hV1 : 1 < V := by omega
    have hV2 : V < 2147483648 := by omega
    have q1 : (V == 1) = false := by simp; omega
    have q2 : decide (V = 1) = false := decide_eq_false (by omega)
    have q3 : decide (V < 0) = false := decide_eq_false (by omega)
    have q4 : decide (0 < V) = true := decide_eq_true (by omega)
    have q5 : (V == 0) = false := by simp; omega
    have q6 : decide (V = 0) = false := decide_eq_false (by omega)
    refine ⟨_, (stepG_add_atomic rfl rfl (by k_ne) rfl H.f_addU64 (x_addU64_n L) (x_addU64_b L) (x_addU64_x L) .u64 (x_addU64_f L) rfl rfl hw.cellSt (hw.thaw 0)).trans (by rw [eX]; rfl), gm_last (n := 110) ?_⟩
    replace hK : F (w₂.setCell (stA Wg) (.int .u64 X)) ∧ WgLive L.tWg Wg (w₂.setCell (stA Wg) (.int .u64 X)) := ⟨hF2 _ _ (aside_setCell w₂ (stA Wg) _) hK.1, ⟨_, _, hw.setSt _⟩⟩
    clear hw hX hV eX
    walk_nrm
    u_op (flR hF1) hK
    u_c stepG_region_end (flR hF1) hK
    u_c stepG_ret' (flR hF1) hK
    u_leave1 H.f_uAdd (flR hF1) hK
    u_op (flR hF1) hK
    u_c stepG_region_end (flR hF1) hK
    u_c stepG_seq (flR hF1) hK
    u_c stepG_seq (flR hF1) hK
    u_reg (flR hF1) hK
    u_op (flR hF1) hK
    u_op (flR hF1) hK
    u_op (flR hF1) hK
    u_op (flR hF1) hK
    u_skip (flR hF1) hK
    u_skip (flR hF1) hK
    u_op (flR hF1) hK
    u_c stepG_region_end (flR hF1) hK
    u_cnd false (flR hF1) hK
    u_c stepG_skip (flR hF1) hK
    u_c stepG_seq (flR hF1) hK
    u_reg (flR hF1) hK
    u_op (flR hF1) hK
    u_op (flR hF1) hK
    u_op (flR hF1) hK
    u_op (flR hF1) hK
    u_c stepG_region_end (flR hF1) hK
    u_c stepG_seq (flR hF1) hK
    u_reg (flR hF1) hK
    u_op (flR hF1) hK
    u_op (flR hF1) hK
    u_op (flR hF1) hK
    u_op (flR hF1) hK
    u_c stepG_region_end (flR hF1) hK
    u_c stepG_seq (flR hF1) hK
    u_c stepG_seq (flR hF1) hK
    u_reg (flR hF1) hK
    u_op (flR hF1) hK
    u_op (flR hF1) hK
    u_op (flR hF1) hK
    u_op (flR hF1) hK
    u_op (flR hF1) hK
    u_op (flR hF1) hK
    u_op (flR hF1) hK
    u_op (flR hF1) hK
    u_op (flR hF1) hK
    u_op (flR hF1) hK
    u_c stepG_region_end (flR hF1) hK
    u_cnd false (flR hF1) hK
    u_c stepG_skip (flR hF1) hK
    u_c stepG_seq (flR hF1) hK
    u_c stepG_seq (flR hF1) hK
    u_reg (flR hF1) hK
    u_op (flR hF1) hK
    u_op (flR hF1) hK
    u_c stepG_region_end (flR hF1) hK
    u_cnd false (flR hF1) hK
    u_c stepG_skip (flR hF1) hK
    u_c stepG_seq (flR hF1) hK
    u_c stepG_seq (flR hF1) hK
    u_reg (flR hF1) hK
    u_op (flR hF1) hK
    u_op (flR hF1) hK
    u_op (flR hF1) hK
    u_skip (flR hF1) hK
    u_skip (flR hF1) hK
    u_op (flR hF1) hK
    u_op (flR hF1) hK
    u_skip (flR hF1) hK
    u_skip (flR hF1) hK
    u_skip (flR hF1) hK
    u_skip (flR hF1) hK
    u_op (flR hF1) hK
    u_c stepG_region_end (flR hF1) hK
    u_cnd false (flR hF1) hK
    u_c stepG_skip (flR hF1) hK
    u_c stepG_seq (flR hF1) hK
    u_c stepG_seq (flR hF1) hK
    u_reg (flR hF1) hK
    u_op (flR hF1) hK
    u_op (flR hF1) hK
    u_op (flR hF1) hK
    u_skip (flR hF1) hK
    u_skip (flR hF1) hK
    u_op (flR hF1) hK
    u_c stepG_region_end (flR hF1) hK
    u_cnd true (flR hF1) hK
    u_c stepG_ret' (flR hF1) hK
    refine Goes.stop (fun w₃ h₃ => ?_)
    replace hK := flR hF1 hK h₃
    clear h₃
    refine ⟨rfl, _, stepG_unwind_entry (v := .tuple #[]) (evs := #[mk .enable]) rfl H.f_enable (x_enable_n L) (x_enable_b L) (x_enable_x L) (x_enable_f L) (by simp [Extern.Race.none_]) (by simp [mk]) (by simp [mk]), gm_seg (n := 1) ?_⟩
    u_leave0 H.f_add (flR hF1) hK
    exact Goes.stop (fun w₄ h₄ => hT _ (flR hF1 hK h₄).1 (flR hF1 hK h₄).2)
end
end Go.Proofs.Ytmmolicodlmlkaa.Ph
namespace Go.Proofs.Ytmmolicodlmlkaa.Ph
open Go.Conc Go.ConcN Go.RowKit Go.Conc.Lib Go.ConcR.Gen Go.ConcN.Gen
open Go.ConcR (KK wgBlock WgAt stA smA rd wr mk DC0 Payload)
open Go.Proofs.Ytmmolicodlmlkaa.Rel (RS DS EvS Tr Sub GoT Go1)
set_option linter.unusedVariables false
set_option linter.unusedSimpArgs false

/-- Behind the acquire: whatever the world, it comes to this frame. -/
def AfterW (P : Program) (c : Frame) (cs : List Frame) (g : Goroutine) : Prop := ∃ m, ∀ w, Goes P true (fun _ _ => True) DC0 (fun g' _ => g' = G c cs) m g w
section
variable {L : WgLink} {P : Program} {Wg C : Nat} {Rm S : Nat → Prop} {F : World → Prop} {Nx : (Nat → Prop) → Goroutine → World → Prop} {Anch : (Nat → Prop) → Goroutine → World → Prop}
  {b₀ : Frame} {a₀ : Act} {ops₀ : Array Oper} {i₀ : Nat} {rest₀ : List Nat} {k₀ : List Item} {cs : List Frame}
set_option maxRecDepth 100000 in
/-- To the loop's head. -/
theorem waitStart (H : WgLib P L) (hF1 : ∀ a b, RM L.tWg Wg C Rm S a b → F a → F b) (hAnch : ∀ g w, AnchWN L F Wg (b₀.at a₀ (.inRegion ops₀ (i₀ :: rest₀) :: k₀)) cs g w → Anch S g w) (w : World) (hK : F w ∧ WgLive L.tWg Wg w) :
    GM P L.tWg Wg C Rm (MKd P L.tWg Wg C Rm Anch) S (G ((base L.wait).at ⟨#[.pointer (some ⟨Wg, 0, none⟩), undef, undef, undef, undef, undef, undef, undef, undef, undef, undef, undef, undef, undef, undef, undef, undef, undef, undef, undef, undef, undef, undef, undef, undef, undef, undef, undef, undef, undef, undef, undef, undef, undef, undef, undef, undef, undef, undef, undef, undef, undef, undef, undef, undef, undef, undef, undef, undef, undef, undef, undef, undef, undef, undef, undef, undef, undef, undef, undef, undef, undef, undef, undef, undef, undef, undef, undef, undef, undef, undef, undef, undef, undef, undef, undef, undef, undef, undef, undef, undef, undef, undef, undef], []⟩ [.code (body_wait L)]) (b₀.at a₀ (.inRegion ops₀ (i₀ :: rest₀) :: k₀) :: cs)) w := by
  lib_facts
  refine gm_last (n := 3) ?_
  simp only [body_wait, waitFn, Option.getD_some]
  u_c stepG_seq (flR hF1) hK
  u_cond true (flR hF1) hK
  u_reg (flR hF1) hK
  refine Goes.stop (fun w₁ h₁ => ?_)
  replace hK := flR hF1 hK h₁
  clear h₁
  refine ⟨rfl, _, stepG_mark0 .disable (by simp) rfl rfl (by k_ne) rfl H.f_disable (x_disable_n L) (x_disable_b L) (x_disable_x L) (x_disable_f L), gm_last (n := 3) ?_⟩
  walk_nrm
  u_c stepG_region_end (flR hF1) hK
  u_c stepG_block (flR hF1) hK
  u_c stepG_loop (flR hF1) hK
  exact Goes.stop (fun w₂ h₂ => hAnch _ _ ⟨_, rfl, by simp, by simp, flR hF1 hK h₂⟩)
set_option maxRecDepth 100000 in
set_option maxHeartbeats 8000000 in
/-- From the loop's head. -/
theorem waitRound (H : WgLib P L) (hF1 : ∀ a b, RM L.tWg Wg C Rm S a b → F a → F b) (hF2 : ∀ a b, Aside Wg a b → F a → F b) (hAnch : ∀ g w, AnchWN L F Wg (b₀.at a₀ (.inRegion ops₀ (i₀ :: rest₀) :: k₀)) cs g w → Anch S g w)
    (hT : ∀ g w, AfterW P (b₀.at (a₀.put ((ops₀[i₀]?).bind (·.dst)) (.tuple #[])) (.inRegion ops₀ rest₀ :: k₀)) cs g → F w → WgLive L.tWg Wg w → Nx S g w) (g : Goroutine) (w : World) (h : AnchWN L F Wg (b₀.at a₀ (.inRegion ops₀ (i₀ :: rest₀) :: k₀)) cs g w) :
    GM P L.tWg Wg C Rm (MW1 P L.tWg Wg C Rm Nx Anch) S g w := by
  lib_facts
  obtain ⟨T, rfl, hT84, t0, hK⟩ := h
  obtain ⟨v0, v1, v2, v3, v4, v5, v6, v7, v8, v9, v10, v11, v12, v13, v14, v15, v16, v17, v18, v19, v20, v21, v22, v23, v24, v25, v26, v27, v28, v29, v30, v31, v32, v33, v34, v35, v36, v37, v38, v39, v40, v41, v42, v43, v44, v45, v46, v47, v48, v49, v50, v51, v52, v53, v54, v55, v56, v57, v58, v59, v60, v61, v62, v63, v64, v65, v66, v67, v68, v69, v70, v71, v72, v73, v74, v75, v76, v77, v78, v79, v80, v81, v82, v83, rfl⟩ := array84 T hT84
  simp only [List.getElem?_toArray, List.getElem?_cons_zero, Option.some.injEq] at t0
  subst t0
  refine gm_last (n := 30) ?_
  simp only [L7, body_wait, waitFn, Option.getD_some]
  u_c stepG_block (flR hF1) hK
  u_c stepG_seq (flR hF1) hK
  u_reg (flR hF1) hK
  u_op (flR hF1) hK
  u_op (flR hF1) hK
  u_op (flR hF1) hK
  u_call H.f_uLoad (nm_uLoad L) uLoadFn (flR hF1) hK
  u_c stepG_seq (flR hF1) hK
  u_reg (flR hF1) hK
  u_op (flR hF1) hK
  u_c stepG_region_end (flR hF1) hK
  u_c stepG_seq (flR hF1) hK
  u_reg (flR hF1) hK
  u_op (flR hF1) hK
  u_op (flR hF1) hK
  u_op (flR hF1) hK
  refine Goes.stop (fun w₁ h₁ => ?_)
  replace hK := flR hF1 hK h₁
  clear h₁
  refine ⟨rfl, fun v hv hw => ?_⟩
  rcases Nat.eq_zero_or_pos v with rfl | hvp
  · replace hw : WgAt L.tWg Wg w₁ 0 0 := by simpa using hw
    refine ⟨_, stepG_load_atomic (v := 0) rfl rfl (by k_ne) rfl H.f_loadU64 (x_loadU64_n L) (x_loadU64_b L) (x_loadU64_x L) .u64 (x_loadU64_f L) rfl hw.cellSt, fun _ => gm_last (n := 50) ?_, fun h => absurd rfl h⟩
    clear hw
    walk_nrm
    u_op (flR hF1) hK
    u_c stepG_region_end (flR hF1) hK
    u_c stepG_ret' (flR hF1) hK
    u_leave1 H.f_uLoad (flR hF1) hK
    u_op (flR hF1) hK
    u_c stepG_region_end (flR hF1) hK
    u_c stepG_seq (flR hF1) hK
    u_reg (flR hF1) hK
    u_op (flR hF1) hK
    u_op (flR hF1) hK
    u_op (flR hF1) hK
    u_op (flR hF1) hK
    u_c stepG_region_end (flR hF1) hK
    u_c stepG_seq (flR hF1) hK
    u_reg (flR hF1) hK
    u_op (flR hF1) hK
    u_op (flR hF1) hK
    u_op (flR hF1) hK
    u_op (flR hF1) hK
    u_c stepG_region_end (flR hF1) hK
    u_c stepG_seq (flR hF1) hK
    u_c stepG_seq (flR hF1) hK
    u_reg (flR hF1) hK
    u_op (flR hF1) hK
    u_op (flR hF1) hK
    u_c stepG_region_end (flR hF1) hK
    u_cond true (flR hF1) hK
    u_c stepG_seq (flR hF1) hK
    u_cond true (flR hF1) hK
    u_c stepG_seq (flR hF1) hK
    u_reg (flR hF1) hK
    refine Goes.stop (fun w₅ h₅ => ?_)
    replace hK := flR hF1 hK h₅
    clear h₅
    refine ⟨rfl, _, stepG_mark0 .enable (by simp) rfl rfl (by k_ne) rfl H.f_enable (x_enable_n L) (x_enable_b L) (x_enable_x L) (x_enable_f L), gm_last (n := 12) ?_⟩
    walk_nrm
    u_c stepG_region_end (flR hF1) hK
    u_reg (flR hF1) hK
    u_op (flR hF1) hK
    u_conv H.underlying_tWgP H.room_tWg (WgLive.cell0 hK.2).choose_spec (flR hF1) hK
    refine Goes.stop (fun w₆ h₆ => ?_)
    replace hK := flR hF1 hK h₆
    clear h₆
    refine ⟨rfl, _, stepG_markAt .acquire (by simp) rfl rfl (by k_ne) rfl H.f_acquire (x_acquire_n L) (x_acquire_b L) (x_acquire_x L) (x_acquire_f L) (by simp [Act.eval, stA]), hT _ _ ⟨30, fun w => ?_⟩ hK.1 hK.2⟩
    have tr := trivial
    walk_nrm
    u_c stepG_region_end (fun h _ => h) tr
    u_c stepG_seq (fun h _ => h) tr
    u_c stepG_seq (fun h _ => h) tr
    u_reg (fun h _ => h) tr
    u_op (fun h _ => h) tr
    u_op (fun h _ => h) tr
    u_op (fun h _ => h) tr
    u_op (fun h _ => h) tr
    u_op (fun h _ => h) tr
    u_op (fun h _ => h) tr
    u_op (fun h _ => h) tr
    u_op (fun h _ => h) tr
    u_skip (fun h _ => h) tr
    u_skip (fun h _ => h) tr
    u_op (fun h _ => h) tr
    u_c stepG_region_end (fun h _ => h) tr
    u_cond false (fun h _ => h) tr
    u_c stepG_skip (fun h _ => h) tr
    u_c stepG_ret' (fun h _ => h) tr
    u_leave0 H.f_wait (fun h _ => h) tr
    exact Goes.stop (fun w₁ _ => rfl)
  · obtain ⟨X, hX⟩ : ∃ X : Int, (v : Int) * KK = X := ⟨_, rfl⟩
    have a1 : X / 4294967296 = (v : Int) := by rw [← hX]; simp only [KK]; omega
    have b1 : bits .and .u64 X 2147483648 = 0 := by rw [← hX]; have := st_flag v 0 (by omega) (by omega); simpa [KK] using this
    have b2 : bits .and .u64 X 2147483647 = 0 := by rw [← hX]; have := st_waiters v 0 (by omega) (by omega); simpa [KK] using this
    have c1 : IntKind.i32.wrap (v : Int) = (v : Int) := by rw [IntKind.wrap_i32]; omega
    have w1 : IntKind.u64.wrap (X + 1) = X + 1 := by rw [IntKind.wrap_u64, ← hX]; simp only [KK]; omega
    have q3 : decide ((v : Int) < 0) = false := decide_eq_false (by omega)
    have q4 : decide (0 < (v : Int)) = true := decide_eq_true (by omega)
    have q5 : ((v : Int) == 0) = false := by simp; omega
    have q6 : decide ((v : Int) = 0) = false := decide_eq_false (by omega)
    rw [hX] at hw
    refine ⟨_, stepG_load_atomic (v := X) rfl rfl (by k_ne) rfl H.f_loadU64 (x_loadU64_n L) (x_loadU64_b L) (x_loadU64_x L) .u64 (x_loadU64_f L) rfl hw.cellSt, fun h0 => absurd h0 (by omega), fun _ => gm_last (n := 60) ?_⟩
    clear hw
    walk_nrm
    u_op (flR hF1) hK
    u_c stepG_region_end (flR hF1) hK
    u_c stepG_ret' (flR hF1) hK
    u_leave1 H.f_uLoad (flR hF1) hK
    u_op (flR hF1) hK
    u_c stepG_region_end (flR hF1) hK
    u_c stepG_seq (flR hF1) hK
    u_reg (flR hF1) hK
    u_op (flR hF1) hK
    u_op (flR hF1) hK
    u_op (flR hF1) hK
    u_op (flR hF1) hK
    u_c stepG_region_end (flR hF1) hK
    u_c stepG_seq (flR hF1) hK
    u_reg (flR hF1) hK
    u_op (flR hF1) hK
    u_op (flR hF1) hK
    u_op (flR hF1) hK
    u_op (flR hF1) hK
    u_c stepG_region_end (flR hF1) hK
    u_c stepG_seq (flR hF1) hK
    u_c stepG_seq (flR hF1) hK
    u_reg (flR hF1) hK
    u_op (flR hF1) hK
    u_op (flR hF1) hK
    u_c stepG_region_end (flR hF1) hK
    u_cnd false (flR hF1) hK
    u_c stepG_skip (flR hF1) hK
    u_c stepG_seq (flR hF1) hK
    u_reg (flR hF1) hK
    u_op (flR hF1) hK
    u_op (flR hF1) hK
    u_op (flR hF1) hK
    u_op (flR hF1) hK
    u_op (flR hF1) hK
    u_op (flR hF1) hK
    u_call H.f_uCas (nm_uCas L) uCasFn (flR hF1) hK
    u_c stepG_seq (flR hF1) hK
    u_reg (flR hF1) hK
    u_op (flR hF1) hK
    u_c stepG_region_end (flR hF1) hK
    u_c stepG_seq (flR hF1) hK
    u_reg (flR hF1) hK
    u_op (flR hF1) hK
    u_op (flR hF1) hK
    u_op (flR hF1) hK
    u_op (flR hF1) hK
    u_op (flR hF1) hK
    refine Goes.stop (fun w₂ h₂ => ?_)
    replace hK := flR hF1 hK h₂
    clear h₂
    refine ⟨rfl, fun v' hv' hw => ⟨fun e => ?_, fun e => ?_⟩⟩
    · subst e
      rw [hX] at hw ⊢
      refine ⟨_, (stepG_cas_hit (v := X) (n := X + 1) rfl rfl (by k_ne) rfl H.f_casU64 (x_casU64_n L) (x_casU64_b L) (x_casU64_x L) .u64 (x_casU64_f L) rfl rfl rfl hw.cellSt (hw.thaw 0)).trans (by rfl), gm_seg (n := 70) ?_⟩
      replace hK : F (w₂.setCell (stA Wg) (.int .u64 (X + 1))) ∧ WgLive L.tWg Wg (w₂.setCell (stA Wg) (.int .u64 (X + 1))) := ⟨hF2 _ _ (aside_setCell w₂ (stA Wg) _) hK.1, ⟨_, _, hw.setSt _⟩⟩
      clear hw
      walk_nrm
      u_op (flR hF1) hK
      u_c stepG_region_end (flR hF1) hK
      u_c stepG_ret' (flR hF1) hK
      u_leave1 H.f_uCas (flR hF1) hK
      u_c stepG_region_end (flR hF1) hK
      u_cond true (flR hF1) hK
      u_c stepG_seq (flR hF1) hK
      u_c stepG_seq (flR hF1) hK
      u_reg (flR hF1) hK
      u_op (flR hF1) hK
      u_op (flR hF1) hK
      u_op (flR hF1) hK
      u_op (flR hF1) hK
      u_c stepG_region_end (flR hF1) hK
      u_cond true (flR hF1) hK
      u_reg (flR hF1) hK
      u_op (flR hF1) hK
      u_op (flR hF1) hK
      u_op (flR hF1) hK
      u_conv H.underlying_tPU32 H.room_tU32 (WgLive.cell1 hK.2).choose_spec (flR hF1) hK
      refine Goes.stop (fun w₃ h₃ => ?_)
      replace hK := flR hF1 hK h₃
      clear h₃
      refine gm_said (e := mk (.write (smA Wg))) rfl (fun w₄ _ => stepG_markAt .write (by simp) rfl rfl (by k_ne) rfl H.f_raceWrite (x_raceWrite_n L) (x_raceWrite_b L) (x_raceWrite_x L) (x_raceWrite_f L) (ad := ⟨Wg, 1, none⟩) (by simp [Act.eval])) (.inr rfl) (fun w₄ h₄ => ?_)
      replace hK := flR hF1 hK h₄
      clear h₄
      refine gm_last (n := 60) ?_
      walk_nrm
      u_c stepG_region_end (flR hF1) hK
      u_c stepG_seq (flR hF1) hK
      u_reg (flR hF1) hK
      u_op (flR hF1) hK
      u_c stepG_region_end (flR hF1) hK
      u_c stepG_seq (flR hF1) hK
      u_c stepG_seq (flR hF1) hK
      u_reg (flR hF1) hK
      u_op (flR hF1) hK
      u_op (flR hF1) hK
      u_op (flR hF1) hK
      u_op (flR hF1) hK
      u_skip (flR hF1) hK
      u_op (flR hF1) hK
      u_c stepG_region_end (flR hF1) hK
      u_cond false (flR hF1) hK
      u_c stepG_skip (flR hF1) hK
      u_c stepG_seq (flR hF1) hK
      u_reg (flR hF1) hK
      u_op (flR hF1) hK
      u_op (flR hF1) hK
      u_op (flR hF1) hK
      u_op (flR hF1) hK
      refine Goes.stop (fun w₃ h₃ w₄ h₄ => ?_)
      replace hK := flR hF1 (flR hF1 hK h₃) h₄
      clear h₃ h₄
      refine ⟨rfl, rfl, fun ⟨st, hw⟩ => stepG_semacquire_wait rfl rfl rfl H.f_semacquire (x_semacquire_n L) (x_semacquire_b L) (x_semacquire_x L) (x_semacquire_f L) (by simp [Act.eval, smA]) hw.cellSm, fun hf => ?_⟩
      refine ⟨_, (stepG_semacquire (n := 1) rfl rfl (by k_ne) rfl H.f_semacquire (x_semacquire_n L) (x_semacquire_b L) (x_semacquire_x L) (x_semacquire_f L) (by simp [Act.eval, smA]) hf.cellSm (by k_ne) (hf.thaw 1)).trans (by rfl), gm_last (n := 30) ?_⟩
      replace hK : F (w₄.setCell (smA Wg) (.int .u32 0)) ∧ WgLive L.tWg Wg (w₄.setCell (smA Wg) (.int .u32 0)) := ⟨hF2 _ _ (aside_setCell w₄ (smA Wg) _) hK.1, ⟨_, _, hf.setSm 0⟩⟩
      clear hf
      walk_nrm
      u_c stepG_region_end (flR hF1) hK
      u_c stepG_seq (flR hF1) hK
      u_reg (flR hF1) hK
      u_op (flR hF1) hK
      u_op (flR hF1) hK
      u_op (flR hF1) hK
      u_call H.f_uLoad (nm_uLoad L) uLoadFn (flR hF1) hK
      u_c stepG_seq (flR hF1) hK
      u_reg (flR hF1) hK
      u_op (flR hF1) hK
      u_c stepG_region_end (flR hF1) hK
      u_c stepG_seq (flR hF1) hK
      u_reg (flR hF1) hK
      u_op (flR hF1) hK
      u_op (flR hF1) hK
      u_op (flR hF1) hK
      refine Goes.stop (fun w₅ h₅ => ?_)
      replace hK := flR hF1 hK h₅
      clear h₅
      refine ⟨rfl, fun hw => ⟨_, stepG_load_atomic (v := 0) rfl rfl (by k_ne) rfl H.f_loadU64 (x_loadU64_n L) (x_loadU64_b L) (x_loadU64_x L) .u64 (x_loadU64_f L) rfl hw.cellSt, gm_last (n := 30) ?_⟩⟩
      clear hw
      walk_nrm
      u_op (flR hF1) hK
      u_c stepG_region_end (flR hF1) hK
      u_c stepG_ret' (flR hF1) hK
      u_leave1 H.f_uLoad (flR hF1) hK
      u_op (flR hF1) hK
      u_op (flR hF1) hK
      u_c stepG_region_end (flR hF1) hK
      u_c stepG_seq (flR hF1) hK
      u_cond true (flR hF1) hK
      u_c stepG_seq (flR hF1) hK
      u_reg (flR hF1) hK
      refine Goes.stop (fun w₅ h₅ => ?_)
      replace hK := flR hF1 hK h₅
      clear h₅
      refine ⟨rfl, _, stepG_mark0 .enable (by simp) rfl rfl (by k_ne) rfl H.f_enable (x_enable_n L) (x_enable_b L) (x_enable_x L) (x_enable_f L), gm_last (n := 12) ?_⟩
      walk_nrm
      u_c stepG_region_end (flR hF1) hK
      u_reg (flR hF1) hK
      u_op (flR hF1) hK
      u_conv H.underlying_tWgP H.room_tWg (WgLive.cell0 hK.2).choose_spec (flR hF1) hK
      refine Goes.stop (fun w₆ h₆ => ?_)
      replace hK := flR hF1 hK h₆
      clear h₆
      refine ⟨rfl, _, stepG_markAt .acquire (by simp) rfl rfl (by k_ne) rfl H.f_acquire (x_acquire_n L) (x_acquire_b L) (x_acquire_x L) (x_acquire_f L) (by simp [Act.eval, stA]), hT _ _ ⟨30, fun w => ?_⟩ hK.1 hK.2⟩
      have tr := trivial
      walk_nrm
      u_c stepG_region_end (fun h _ => h) tr
      u_c stepG_seq (fun h _ => h) tr
      u_c stepG_seq (fun h _ => h) tr
      u_reg (fun h _ => h) tr
      u_op (fun h _ => h) tr
      u_c stepG_region_end (fun h _ => h) tr
      u_cond false (fun h _ => h) tr
      u_c stepG_skip (fun h _ => h) tr
      u_c stepG_ret' (fun h _ => h) tr
      u_leave0 H.f_wait (fun h _ => h) tr
      exact Goes.stop (fun w₁ _ => rfl)
    · refine ⟨_, stepG_cas_miss (v := (v' : Int) * KK) (old := X) (n := X + 1) rfl rfl (by k_ne) rfl H.f_casU64 (x_casU64_n L) (x_casU64_b L) (x_casU64_x L) .u64 (x_casU64_f L) rfl rfl rfl hw.cellSt (hw.thaw 0) (by rw [← hX]; simp only [KK]; omega), gm_last (n := 20) ?_⟩
      clear hw
      walk_nrm
      u_op (flR hF1) hK
      u_c stepG_region_end (flR hF1) hK
      u_c stepG_ret' (flR hF1) hK
      u_leave1 H.f_uCas (flR hF1) hK
      u_c stepG_region_end (flR hF1) hK
      u_cond false (flR hF1) hK
      u_c stepG_skip (flR hF1) hK
      u_c stepG_inBlock (flR hF1) hK
      u_c stepG_inLoop (flR hF1) hK
      exact Goes.stop (fun w₃ h₃ => hAnch _ _ ⟨_, rfl, by simp, by simp, flR hF1 hK h₃⟩)
end
end Go.Proofs.Ytmmolicodlmlkaa.Ph
namespace Go.Proofs.Ytmmolicodlmlkaa.Ph
open Go.Conc Go.ConcN Go.RowKit Go.Conc.Lib Go.ConcR.Gen Go.ConcN.Gen
open Go.ConcR (KK wgBlock WgAt stA smA rd wr mk DC0 Payload)
open Go.Proofs.Ytmmolicodlmlkaa.Rel (RS DS EvS Tr Sub GoT Go1)
set_option linter.unusedVariables false
set_option linter.unusedSimpArgs false

section
variable {P : Program} {main : Bool} {R : (Nat → Prop) → World → World → Prop} {D : (Nat → Prop) → World → World → Array Event → (Nat → Prop) → Prop} {Stop : (Nat → Prop) → Goroutine → World → Prop} {S : Nat → Prop} {w : World} {b : Frame} {a : Act} {k : List Item} {cs : List Frame} {ops : Array Oper} {i : Nat} {rest : List Nat} {o : Oper}
/-- One operation. -/
theorem go1_op (ho : ops[i]? = some o) (hw : Region.wanted o (yielded ops a.tmps) = true) (hk : b.kind ≠ .early)
    (h : ∀ w₁, R S w w₁ → ∀ K : Act → World → Prop, (∀ a' w', (∃ S', D S w₁ w' (listed P b.fn a o w₁) S' ∧ Go1 P main R D Stop S' (G (b.at a' (.inRegion ops rest :: k)) cs) w') → K a' w') → uponK o a K ((execOp a.eval o).run P w₁)) :
    Go1 P main R D Stop S (G (b.at a (.inRegion ops (i :: rest) :: k)) cs) w := by
  refine Go1.step rfl fun w₁ h₁ => ?_
  have := goes_oper_k (P := P) (main := main) (cs := cs) (k := k) (rest := rest) (w := w₁) (K := fun g' w' es => ∃ S', D S w₁ w' es S' ∧ Go1 P main R D Stop S' g' w') ho hw hk (h w₁ h₁)
  cases hg : stepG P main (G (b.at a (.inRegion ops (i :: rest) :: k)) cs) w₁ with
  | go g' w' es =>
    rw [hg] at this
    obtain ⟨S', h1, h2⟩ := this
    exact ⟨g', w', es, S', rfl, h1, h2⟩
  | _ => rw [hg] at this; exact this.elim
end
section
variable {P : Program} {ty : TypeId} {Wg C : Nat} {Rm S : Nat → Prop} {Stop : (Nat → Prop) → Goroutine → World → Prop} {g : Goroutine} {w : World} {n : Nat} {es : Array Event}
theorem dm_same {a b : World} (h : DE1 Rm S a b es) : DM Wg Rm S a b es S := by
  obtain ⟨rfl, h⟩ := h
  exact ⟨rfl, rfl, rfl, Nat.le_refl _, fun b => ⟨.inl, fun h => h.elim id fun h => by omega⟩, fun _ _ _ => rfl, fun e he => .inl (h e he)⟩
theorem gm_go (h : Goes P true (RM ty Wg C Rm S) (DE1 Rm S) (fun g w => GM P ty Wg C Rm Stop S g w) n g w) : GM P ty Wg C Rm Stop S g w :=
  Go1.bind (fun _ a => RM.refl a) (Go1.of_goes (Stop := fun S g w => GM P ty Wg C Rm Stop S g w) (fun _ _ h => h) (fun _ _ _ h => dm_same h) (fun _ _ h => h) h) fun _ _ _ h => h
theorem dm_alloc {o : Obj} (h : ∀ e ∈ es, EvS Rm (fun b => S b ∨ b = w.heap.size) e) : DM Wg Rm S w (w.alloc o) es (fun b => S b ∨ b = w.heap.size) := by
  have hs : (w.alloc o).heap.size = w.heap.size + 1 := Array.size_push _
  exact ⟨rfl, rfl, rfl, by omega, fun b => ⟨fun h => h.imp id fun h => by omega, fun h => h.imp id fun h => by omega⟩, fun b hb _ => heap_alloc_old w o b hb, fun e he => .inl (h e he)⟩
theorem dm_store {a : Addr} {v : Value} (hS : S a.block) (h : ∀ e ∈ es, EvS Rm S e) : DM Wg Rm S w (w.setCell a v) es S := by
  have hs : (w.setCell a v).heap.size = w.heap.size := by simp [World.setCell]
  exact ⟨rfl, rfl, rfl, by omega, fun b => ⟨.inl, fun h => h.elim id fun h => by omega⟩, fun b hb hn => heap_setCell_other w a b v fun e => hn (e ▸ hS), fun e he => .inl (h e he)⟩
end
/-- 'go' of a closure. -/
theorem stepG_go_closure {P : Program} {main : Bool} {b : Frame} {a : Act} {k : List Item} {cs : List Frame} {w : World} {f : FuncId} {cap : Array Value} {ops : Array Oper} {i : Nat} {rest : List Nat} {o : Oper} {t : Tmp} {ats : Array TypeId} (ho : ops[i]? = some o) (hw : Region.wanted o (yielded ops a.tmps) = true)
    (hk : b.kind ≠ .early) (hop : o.op = .go { callee := .value (.tmp t), args := #[], argTypes := ats }) (hv : a.eval (.tmp t) = .func (.func f) #[] cap) :
    stepG P main (G (b.at a (.inRegion ops (i :: rest) :: k)) cs) w = .spawn (G (b.at (a.put o.dst undef) (.inRegion ops rest :: k)) cs) (born P (dclos f cap)) w #[] := by
  have hr : (execOp a.eval o).run P w = .ok (.spawn (dclos f cap)) w := by
    unfold execOp
    simp [hop, resolve, Deferred.ofValue, hv, dclos]
  have he : (execOp a.eval o).events P w #[] = #[] := by
    unfold execOp
    simp [hop, resolve, Deferred.ofValue, hv]
  rw [stepG_spawn ho hw hk hr rfl]
  have : listed P b.fn a o w = #[] := by unfold listed; rw [he]; exact seen_none P _
  rw [this]
/-- What is handed to sharedWork, and what its calls do. -/
structure Task (Wg C bn bk bd n k : Nat) (fd : FuncId) (capd : Array Value) (Rm0 : Nat → Prop) (mine : Nat → Nat → Prop) (U : World → Prop) (J : Nat → Nat → (Nat → Prop) → World → Prop) (Fact : Nat → (Nat → Prop) → World → Prop) : Prop where
  hn : n < 4294967296
  hk : 1 ≤ k ∧ k < 65536
  fn : ∃ fn code, Try.prog.funcs[fd]? = some fn ∧ (fn.name == "runtime.NumGoroutine") = false ∧ fn.body = some code
  hU : ∀ a b, b.tape = a.tape ∧ b.os = a.os ∧ b.output = a.output → (∀ x, Rm0 x → b.heap[x]? = a.heap[x]?) → OutStay C (fun _ => False) a b → U a → U b
  hJ : ∀ j Rd i S a b, (∀ x, Rm0 x → Rd x) → RW link.tWg Wg C (mine j) Rd S a b → J j i S a → J j i S b
  hF : ∀ j S a b, (∀ x, S x → b.heap[x]? = a.heap[x]?) → OutStay C (mine j) a b → Fact j S a → Fact j S b
  h0 : ∀ j w, j < k → U w → J j j (fun _ => False) w
  hend : ∀ j i S w, n ≤ i → J j i S w → Fact j S w
  hdo : ∀ j, j < k → ∀ (Rd : Nat → Prop) (bw bf b1 : Nat), (∀ x, Rm0 x → Rd x) → ∀ (i : Nat) (S : Nat → Prop) (w : World) (b : Frame) (a : Act) (ops : Array Oper) (x : Nat) (rest : List Nat) (kk : List Item) (cs : List Frame), i < n →
    WInv link.tWg Wg C bw bf b1 bn bk bd n k j fd capd Rd S w → J j i S w →
    GW Try.prog link.tWg Wg C (mine j) Rd (fun S' g' w' => g' = G (b.at (a.put ((ops[x]?).bind (·.dst)) (.tuple #[])) (.inRegion ops rest :: kk)) cs ∧ J j (i + k) S' w') S (G (Frame.enter Try.prog fd (#[.int .i64 i] ++ capd) .normal) (b.at a (.inRegion ops (x :: rest) :: kk) :: cs)) w
/-- What the starter knows: the places; what it has made since the last go statement. -/
structure SK (Wg C bn bk bd n k : Nat) (fd : FuncId) (capd : Array Value) (Rm0 : Nat → Prop) (U : World → Prop) (own : List (Nat × Value × TypeId)) (Rm S : Nat → Prop) (w : World) : Prop where
  wg : Wg < w.heap.size ∧ ¬ S Wg
  c : C < w.heap.size ∧ ¬ S C
  cw : C ≠ Wg
  rm : ∀ b, Rm b → b < w.heap.size ∧ b ≠ C ∧ b ≠ Wg ∧ ¬ S b
  sm : ∀ b, S b → b < w.heap.size
  r0 : ∀ b, Rm0 b → Rm b
  rn : Rm bn
  rk : Rm bk
  rd : Rm bd
  cn : w.cell? ⟨bn, 0, none⟩ = some (.int .i64 n)
  ck : w.cell? ⟨bk, 0, none⟩ = some (.int .i64 k)
  cd : w.cell? ⟨bd, 0, none⟩ = some (.func (.func fd) #[] capd)
  u : U w
  own : ∀ p ∈ own, S p.1 ∧ w.heap[p.1]? = some (.cells #[p.2.1] p.2.2)
section
variable {Wg C bn bk bd n k : Nat} {fd : FuncId} {capd : Array Value} {Rm0 : Nat → Prop} {mine : Nat → Nat → Prop} {U : World → Prop} {J : Nat → Nat → (Nat → Prop) → World → Prop} {Fact : Nat → (Nat → Prop) → World → Prop}
  {own : List (Nat × Value × TypeId)} {Rm S : Nat → Prop} {w w₁ : World}
theorem SK.move (T : Task Wg C bn bk bd n k fd capd Rm0 mine U J Fact) (h : SK Wg C bn bk bd n k fd capd Rm0 U own Rm S w) (ht : w₁.tape = w.tape ∧ w₁.os = w.os ∧ w₁.output = w.output) (hs : w.heap.size ≤ w₁.heap.size) (hr : ∀ b, Rm b → w₁.heap[b]? = w.heap[b]?) (ho : ∀ b, S b → w₁.heap[b]? = w.heap[b]?) (hC : OutStay C (fun _ => False) w w₁) :
    SK Wg C bn bk bd n k fd capd Rm0 U own Rm S w₁ :=
  ⟨⟨Nat.lt_of_lt_of_le h.wg.1 hs, h.wg.2⟩, ⟨Nat.lt_of_lt_of_le h.c.1 hs, h.c.2⟩, h.cw, fun b hb => ⟨Nat.lt_of_lt_of_le (h.rm b hb).1 hs, (h.rm b hb).2⟩, fun b hb => Nat.lt_of_lt_of_le (h.sm b hb) hs, h.r0, h.rn, h.rk, h.rd,
    (cell_stay (hr _ h.rn)).trans h.cn, (cell_stay (hr _ h.rk)).trans h.ck, (cell_stay (hr _ h.rd)).trans h.cd, T.hU _ _ ht (fun x hx => hr x (h.r0 x hx)) hC h.u, fun p hp => ⟨(h.own p hp).1, (ho _ (h.own p hp).1).trans (h.own p hp).2⟩⟩
theorem SK.rely (T : Task Wg C bn bk bd n k fd capd Rm0 mine U J Fact) (h : SK Wg C bn bk bd n k fd capd Rm0 U own Rm S w) (r : RM link.tWg Wg C Rm S w w₁) : SK Wg C bn bk bd n k fd capd Rm0 U own Rm S w₁ := h.move T ⟨r.tape, r.os, r.output⟩ r.size r.rd r.own r.out
theorem SK.aside (T : Task Wg C bn bk bd n k fd capd Rm0 mine U J Fact) (h : SK Wg C bn bk bd n k fd capd Rm0 U own Rm S w) (r : Aside Wg w w₁) : SK Wg C bn bk bd n k fd capd Rm0 U own Rm S w₁ :=
  h.move T ⟨r.tape, r.os, r.output⟩ (by rw [r.size]; exact Nat.le_refl _) (fun b hb => r.block b (h.rm b hb).2.2.1) (fun b hb => r.block b fun e => h.wg.2 (e ▸ hb)) (.of_block (r.block C h.cw))
theorem SK.alloc (T : Task Wg C bn bk bd n k fd capd Rm0 mine U J Fact) (h : SK Wg C bn bk bd n k fd capd Rm0 U own Rm S w) (v : Value) (t : TypeId) : SK Wg C bn bk bd n k fd capd Rm0 U ((w.heap.size, v, t) :: own) Rm (fun b => S b ∨ b = w.heap.size) (w.alloc (.cells #[v] t)) := by
  have old : ∀ b, b < w.heap.size → (w.alloc (.cells #[v] t)).heap[b]? = w.heap[b]? := fun b hb => heap_alloc_old w _ b hb
  have hs : (w.alloc (.cells #[v] t)).heap.size = w.heap.size + 1 := Array.size_push _
  have m := h.move T (w₁ := w.alloc (.cells #[v] t)) ⟨rfl, rfl, rfl⟩ (by omega) (fun b hb => old b (h.rm b hb).1) (fun b hb => old b (h.sm b hb)) (.of_block (old C h.c.1))
  have h1 := h.wg.1
  have h2 := h.c.1
  refine ⟨⟨m.wg.1, fun x => x.elim h.wg.2 fun e => by omega⟩, ⟨m.c.1, fun x => x.elim h.c.2 fun e => by omega⟩, m.cw, fun b hb => ⟨(m.rm b hb).1, (m.rm b hb).2.1, (m.rm b hb).2.2.1, fun x => x.elim (m.rm b hb).2.2.2 fun e => by have := (h.rm b hb).1; omega⟩,
    fun b hb => hb.elim (m.sm b) fun e => by omega, m.r0, m.rn, m.rk, m.rd, m.cn, m.ck, m.cd, m.u, fun p hp => ?_⟩
  rcases List.mem_cons.1 hp with rfl | hp
  · exact ⟨.inr rfl, heap_alloc_new w _⟩
  · exact ⟨.inl (m.own p hp).1, (m.own p hp).2⟩
theorem SK.store (T : Task Wg C bn bk bd n k fd capd Rm0 mine U J Fact) {b : Nat} {v v' : Value} {t : TypeId} (h : SK Wg C bn bk bd n k fd capd Rm0 U [(b, v, t)] Rm S w) : SK Wg C bn bk bd n k fd capd Rm0 U [(b, v', t)] Rm S (w.setCell ⟨b, 0, none⟩ v') := by
  obtain ⟨hS, hb⟩ := h.own (b, v, t) (by simp)
  simp only at hS hb
  have old : ∀ c, c ≠ b → (w.setCell ⟨b, 0, none⟩ v').heap[c]? = w.heap[c]? := fun c hc => heap_setCell_other w _ c v' hc
  have hs : (w.setCell ⟨b, 0, none⟩ v').heap.size = w.heap.size := by simp [World.setCell]
  have m : SK Wg C bn bk bd n k fd capd Rm0 U [] Rm S (w.setCell ⟨b, 0, none⟩ v') := by
    have hr : ∀ x, Rm x → (w.setCell ⟨b, 0, none⟩ v').heap[x]? = w.heap[x]? := fun x hx => old x fun e => (h.rm x hx).2.2.2 (e ▸ hS)
    exact ⟨by rw [hs]; exact h.wg, by rw [hs]; exact h.c, h.cw, fun x hx => by rw [hs]; exact h.rm x hx, fun x hx => by rw [hs]; exact h.sm x hx, h.r0, h.rn, h.rk, h.rd, (cell_stay (hr _ h.rn)).trans h.cn, (cell_stay (hr _ h.rk)).trans h.ck, (cell_stay (hr _ h.rd)).trans h.cd,
      T.hU w _ ⟨rfl, rfl, rfl⟩ (fun x hx => hr x (h.r0 x hx)) (.of_block (old C fun e => h.c.2 (e ▸ hS))) h.u, by simp⟩
  refine ⟨m.wg, m.c, m.cw, m.rm, m.sm, m.r0, m.rn, m.rk, m.rd, m.cn, m.ck, m.cd, m.u, fun p hp => ?_⟩
  obtain rfl : p = (b, v', t) := by simpa using hp
  exact ⟨hS, by rw [heap_setCell_same w b 0 #[v] t v' hb]; rfl⟩
theorem live_alloc {o : Obj} (hw : Wg < w.heap.size) (h : WgLive link.tWg Wg w) : WgLive link.tWg Wg (w.alloc o) := live_of_block (heap_alloc_old w o Wg hw) h
theorem live_store {a : Addr} {v : Value} (hw : Wg ≠ a.block) (h : WgLive link.tWg Wg w) : WgLive link.tWg Wg (w.setCell a v) := live_of_block (heap_setCell_other w a Wg v hw) h
theorem SK.cell (h : SK Wg C bn bk bd n k fd capd Rm0 U own Rm S w) {b : Nat} {v : Value} {t : TypeId} (hp : (b, v, t) ∈ own) : w.cell? ⟨b, 0, none⟩ = some v := by
  have := (h.own _ hp).2
  simp only at this
  simp [World.cell?, this]
end
end Go.Proofs.Ytmmolicodlmlkaa.Ph
namespace Go.Proofs.Ytmmolicodlmlkaa.Ph
open Go.Conc Go.ConcN Go.RowKit Go.Conc.Lib Go.ConcR.Gen Go.ConcN.Gen
open Go.ConcR (KK wgBlock WgAt stA smA rd wr mk DC0 Payload)
open Go.Proofs.Ytmmolicodlmlkaa.Rel (RS DS EvS Tr Sub GoT Go1)
set_option linter.unusedVariables false
set_option linter.unusedSimpArgs false

noncomputable def ls : Code := match Try.f81.body with | some (.seq _ (.seq _ (.seq (.seq _ (.block _ (.loop c))) _))) => c | _ => .skip
noncomputable def ls7 : Code := match Try.f81.body with | some (.seq _ (.seq _ (.seq _ c))) => c | _ => .skip
theorem nm_go : (Try.f125.name == "runtime.NumGoroutine") = false := by kernel_rfl
section
variable {Wg C bn bk bd n k : Nat} {fd : FuncId} {capd : Array Value} {Rm0 : Nat → Prop} {mine : Nat → Nat → Prop} {U : World → Prop} {J : Nat → Nat → (Nat → Prop) → World → Prop} {Fact : Nat → (Nat → Prop) → World → Prop} {cs : List Frame}
/-- What the starter knows while nothing is its own. -/
def SF (Wg C bn bk bd n k : Nat) (fd : FuncId) (capd : Array Value) (Rm0 : Nat → Prop) (U : World → Prop) (Rm S : Nat → Prop) (w : World) : Prop := SK Wg C bn bk bd n k fd capd Rm0 U [] Rm S w
def AnchS (Wg C bn bk bd n k : Nat) (fd : FuncId) (capd : Array Value) (Rm0 : Nat → Prop) (U : World → Prop) (cs : List Frame) (Rm S : Nat → Prop) (g : Goroutine) (w : World) : Prop :=
  ∃ a ops i, a.defers = [] ∧ AnchWN link (SF Wg C bn bk bd n k fd capd Rm0 U Rm S) Wg ((base 81).at a [.inRegion ops [i]]) cs g w
def NxS (Wg C bn bk bd n k : Nat) (fd : FuncId) (capd : Array Value) (Rm0 : Nat → Prop) (U : World → Prop) (cs : List Frame) (Rm S : Nat → Prop) (g : Goroutine) (w : World) : Prop :=
  (∃ a ops, a.defers = [] ∧ AfterW Try.prog ((base 81).at a [.inRegion ops []]) cs g) ∧ SF Wg C bn bk bd n k fd capd Rm0 U Rm S w ∧ WgLive link.tWg Wg w
theorem spawns_seg {P : Program} {ty : TypeId} {N m : Nat} {Anch : (Nat → Prop) → (Nat → Prop) → Goroutine → World → Prop} {Rm S : Nat → Prop} {g : Goroutine} {w : World} : ∀ {r : Nat},
    Goes P true (RM ty Wg C Rm S) (DE1 Rm S) (fun g w => Spawns P ty Wg C mine Fact N (Fin P ty Wg C Anch) r Rm S g w) m g w → Spawns P ty Wg C mine Fact N (Fin P ty Wg C Anch) r Rm S g w
  | 0, h => gm_go h
  | _ + 1, h => gm_go h
set_option maxRecDepth 100000 in
set_option maxHeartbeats 8000000 in
theorem starter (T : Task Wg C bn bk bd n k fd capd Rm0 mine U J Fact) : ∀ (r j : Nat), j + r = k → ∀ (Rm : Nat → Prop) (w : World) (v7 v8 v11 v12 v13 v14 v15 v16 : Value), SK Wg C bn bk bd n k fd capd Rm0 U [] Rm (fun _ => False) w → WgLive link.tWg Wg w →
    Spawns Try.prog link.tWg Wg C mine Fact k (Fin Try.prog link.tWg Wg C (AnchS Wg C bn bk bd n k fd capd Rm0 U cs)) r Rm (fun _ => False)
      (G ((base 81).at ⟨#[.int .i64 n, .int .i64 k, .func (.func fd) #[] capd, ptr bn, ptr bk, ptr bd, ptr Wg, v7, v8, .int .i64 k, .int .i64 j, v11, v12, v13, v14, v15, v16], []⟩ [.code ls, .inLoop ls, .inBlock 0, .code ls7]) cs) w := by
  intro r
  have hk := T.hk
  induction r with
  | zero =>
    intro j hj Rm w v7 v8 v11 v12 v13 v14 v15 v16 hS hl
    have hF : SK Wg C bn bk bd n k fd capd Rm0 U [] Rm (fun _ => False) w ∧ WgLive link.tWg Wg w := ⟨hS, hl⟩
    have rl : ∀ {a b : World}, SK Wg C bn bk bd n k fd capd Rm0 U [] Rm (fun _ => False) a ∧ WgLive link.tWg Wg a → RM link.tWg Wg C Rm (fun _ => False) a b → SK Wg C bn bk bd n k fd capd Rm0 U [] Rm (fun _ => False) b ∧ WgLive link.tWg Wg b := fun h r => ⟨h.1.rely T r, r.live h.2⟩
    refine spawns_seg (m := 40) ?_
    simp only [ls, ls7, Try.f81]
    (u_in rl hF; rw [stepG_seq]; simp only [goes_go]; refine ⟨by (refine de1_none ?_; intro e he; simp at he), ?_⟩)
    (u_in rl hF; rw [stepG_region]; simp only [goes_go, List.size_toArray, List.length_cons, List.length_nil, Nat.reduceAdd, Nat.zero_add, List.range, List.range.loop]; refine ⟨by (refine de1_none ?_; intro e he; simp at he), ?_⟩)
    u_in rl hF
    refine goes_oper_k rfl rfl (by k_ne) (fun K hK => ?_)
    go_simp
    refine hK _ _ ⟨?_, ?_⟩
    · refine de1_none ?_
      intro e he
      have hm := mem_listed he
      simp [go_sem, *] at hm
    clear hK K
    try w_num
    (u_in rl hF; rw [stepG_region_end]; simp only [goes_go]; refine ⟨by (refine de1_none ?_; intro e he; simp at he), ?_⟩)
    (u_in rl hF; rw [stepG_seq]; simp only [goes_go]; refine ⟨by (refine de1_none ?_; intro e he; simp at he), ?_⟩)
    (u_in rl hF; rw [stepG_cond (t := false) (by first | rfl | (simp [Act.eval]; omega))]; simp only [goes_go, if_true, if_false, Bool.false_eq_true, ↓reduceIte]; refine ⟨by (refine de1_none ?_; intro e he; simp at he), ?_⟩)
    (u_in rl hF; refine goes_exit rfl ?_; refine ⟨by (refine de1_none ?_; intro e he; simp at he), ?_⟩)
    (u_in rl hF; rw [stepG_region]; simp only [goes_go, List.size_toArray, List.length_cons, List.length_nil, Nat.reduceAdd, Nat.zero_add, List.range, List.range.loop]; refine ⟨by (refine de1_none ?_; intro e he; simp at he), ?_⟩)
    u_in rl hF
    refine goes_call rfl rfl (by k_ne) rfl wgLib.f_wait (nm_wait link) rfl ⟨by (refine de1_none ?_; intro e he; simp at he), ?_⟩
    walk_nrmf waitFn
    refine Goes.stop fun w₁ h₁ => ?_
    replace hF := rl hF h₁
    have hW := @waitStart link Try.prog Wg C Rm (fun _ => False) (SF Wg C bn bk bd n k fd capd Rm0 U Rm (fun _ => False)) (AnchS Wg C bn bk bd n k fd capd Rm0 U cs Rm)
    simp only [body_wait, waitFn, Option.getD_some] at hW
    exact hW wgLib (fun a b r h => SK.rely T h r) (fun g w h => ⟨_, _, _, rfl, h⟩) w₁ hF
  | succ r ih =>
    intro j hj Rm w v7 v8 v11 v12 v13 v14 v15 v16 hS hl
    have hF : SK Wg C bn bk bd n k fd capd Rm0 U [] Rm (fun _ => False) w ∧ WgLive link.tWg Wg w := ⟨hS, hl⟩
    have rl : ∀ {a b : World}, SK Wg C bn bk bd n k fd capd Rm0 U [] Rm (fun _ => False) a ∧ WgLive link.tWg Wg a → RM link.tWg Wg C Rm (fun _ => False) a b → SK Wg C bn bk bd n k fd capd Rm0 U [] Rm (fun _ => False) b ∧ WgLive link.tWg Wg b := fun h r => ⟨h.1.rely T r, r.live h.2⟩
    refine spawns_seg (m := 40) ?_
    simp only [ls, ls7, Try.f81]
    (u_in rl hF; rw [stepG_seq]; simp only [goes_go]; refine ⟨by (refine de1_none ?_; intro e he; simp at he), ?_⟩)
    (u_in rl hF; rw [stepG_region]; simp only [goes_go, List.size_toArray, List.length_cons, List.length_nil, Nat.reduceAdd, Nat.zero_add, List.range, List.range.loop]; refine ⟨by (refine de1_none ?_; intro e he; simp at he), ?_⟩)
    u_in rl hF
    refine goes_oper_k rfl rfl (by k_ne) (fun K hK => ?_)
    go_simp
    refine hK _ _ ⟨?_, ?_⟩
    · refine de1_none ?_
      intro e he
      have hm := mem_listed he
      simp [go_sem, *] at hm
    clear hK K
    try w_num
    (u_in rl hF; rw [stepG_region_end]; simp only [goes_go]; refine ⟨by (refine de1_none ?_; intro e he; simp at he), ?_⟩)
    (u_in rl hF; rw [stepG_seq]; simp only [goes_go]; refine ⟨by (refine de1_none ?_; intro e he; simp at he), ?_⟩)
    (u_in rl hF; rw [stepG_cond (t := true) (by first | rfl | (simp [Act.eval]; omega))]; simp only [goes_go, if_true, if_false, Bool.false_eq_true, ↓reduceIte]; refine ⟨by (refine de1_none ?_; intro e he; simp at he), ?_⟩)
    (u_in rl hF; rw [stepG_skip]; simp only [goes_go]; refine ⟨by (refine de1_none ?_; intro e he; simp at he), ?_⟩)
    (u_in rl hF; rw [stepG_seq]; simp only [goes_go]; refine ⟨by (refine de1_none ?_; intro e he; simp at he), ?_⟩)
    (u_in rl hF; rw [stepG_block]; simp only [goes_go]; refine ⟨by (refine de1_none ?_; intro e he; simp at he), ?_⟩)
    (u_in rl hF; rw [stepG_seq]; simp only [goes_go]; refine ⟨by (refine de1_none ?_; intro e he; simp at he), ?_⟩)
    (u_in rl hF; rw [stepG_region]; simp only [goes_go, List.size_toArray, List.length_cons, List.length_nil, Nat.reduceAdd, Nat.zero_add, List.range, List.range.loop]; refine ⟨by (refine de1_none ?_; intro e he; simp at he), ?_⟩)
    u_in rl hF
    refine goes_oper_k rfl rfl (by k_ne) (fun K hK => ?_)
    go_simp
    refine hK _ _ ⟨?_, ?_⟩
    · refine de1_none ?_
      intro e he
      have hm := mem_listed he
      simp [go_sem, *] at hm
    clear hK K
    try w_num
    refine Goes.stop fun w₁ h₁ => ?_
    replace hF := rl hF h₁
    clear h₁
    show GM Try.prog link.tWg Wg C Rm (MKdS Try.prog link.tWg Wg C mine Fact (k - (r + 1)) (Spawns Try.prog link.tWg Wg C mine Fact k (Fin Try.prog link.tWg Wg C (AnchS Wg C bn bk bd n k fd capd Rm0 U cs)) r) Rm) (fun _ => False) _ _
    -- the variable of the loop is made anew
    refine go1_op rfl rfl (by k_ne) (fun w₂ h₂ K hK => ?_)
    replace hF := rl hF h₂
    clear h₂ rl
    go_simp
    refine hK _ _ ⟨_, dm_alloc (fun e he => ?_), ?_⟩
    · have hm := mem_listed he
      simp [go_sem, storedEv, *] at hm
    clear hK K
    replace hF := And.intro (hF.1.alloc T (.int .i64 0) 3) (live_alloc (o := .cells #[.int .i64 0] 3) hF.1.wg.1 hF.2)
    generalize hb : w₂.heap.size = b1 at hF ⊢
    generalize w₂.alloc (.cells #[.int .i64 0] 3) = w₃ at hF ⊢
    clear hb
    have rlx : ∀ {own : List (Nat × Value × TypeId)} {S : Nat → Prop} {a b : World}, SK Wg C bn bk bd n k fd capd Rm0 U own Rm S a ∧ WgLive link.tWg Wg a → RM link.tWg Wg C Rm S a b → SK Wg C bn bk bd n k fd capd Rm0 U own Rm S b ∧ WgLive link.tWg Wg b := fun h r => ⟨h.1.rely T r, r.live h.2⟩
    -- it is stored
    refine go1_op rfl rfl (by k_ne) (fun w₄ h₄ K hK => ?_)
    replace hF := rlx hF h₄
    clear h₄
    have hb1 := (hF.1.own (b1, .int .i64 0, 3) (by simp)).2
    have hc1 := hF.1.cell (b := b1) (v := .int .i64 0) (t := 3) (by simp)
    simp only at hb1
    have hfz : w₄.frozen? ⟨b1, 0, none⟩ = false := by simp [World.frozen?, hb1]
    go_simp
    refine hK _ _ ⟨_, dm_store (S := fun b => False ∨ b = b1) (a := ⟨b1, 0, none⟩) (.inr rfl) (fun e he => ?_), ?_⟩
    · have hm := mem_listed he
      simp [go_sem, storedEv, *] at hm
      subst hm
      exact .inl ⟨_, rfl, .inl (.inr rfl), rfl⟩
    clear hK K hb1 hc1 hfz
    replace hF := And.intro (hF.1.store T (v' := .int .i64 j)) (live_store (a := ⟨b1, 0, none⟩) (v := .int .i64 j) (fun e => hF.1.wg.2 (.inr e)) hF.2)
    generalize w₄.setCell ⟨b1, 0, none⟩ (.int .i64 j) = w₅ at hF ⊢
    refine gm_go (n := 40) ?_
    (u_in rlx hF; rw [stepG_region_end]; simp only [goes_go]; refine ⟨by (refine de1_none ?_; intro e he; simp at he), ?_⟩)
    (u_in rlx hF; rw [stepG_region]; simp only [goes_go, List.size_toArray, List.length_cons, List.length_nil, Nat.reduceAdd, Nat.zero_add, List.range, List.range.loop]; refine ⟨by (refine de1_none ?_; intro e he; simp at he), ?_⟩)
    u_in rlx hF
    refine goes_oper_k rfl rfl (by k_ne) (fun K hK => ?_)
    go_simp
    refine hK _ _ ⟨?_, ?_⟩
    · refine de1_none ?_
      intro e he
      have hm := mem_listed he
      simp [go_sem, *] at hm
    clear hK K
    try w_num
    u_in rlx hF
    refine goes_call rfl rfl (by k_ne) rfl Try.func125 nm_go rfl ⟨by (refine de1_none ?_; intro e he; simp at he), ?_⟩
    walk_nrmf Try.f125
    (u_in rlx hF; rw [stepG_seq]; simp only [goes_go]; refine ⟨by (refine de1_none ?_; intro e he; simp at he), ?_⟩)
    (u_in rlx hF; rw [stepG_region]; simp only [goes_go, List.size_toArray, List.length_cons, List.length_nil, Nat.reduceAdd, Nat.zero_add, List.range, List.range.loop]; refine ⟨by (refine de1_none ?_; intro e he; simp at he), ?_⟩)
    refine Goes.stop fun w₆ h₆ => ?_
    replace hF := rlx hF h₆
    clear h₆
    -- the boxes of the library's Go
    refine go1_op rfl rfl (by k_ne) (fun w₇ h₇ K hK => ?_)
    replace hF := rlx hF h₇
    clear h₇
    go_simp
    refine hK _ _ ⟨_, dm_alloc (fun e he => ?_), ?_⟩
    · have hm := mem_listed he
      simp [go_sem, storedEv, *] at hm
    clear hK K
    replace hF := And.intro (hF.1.alloc T (ptr Wg) 137) (live_alloc (o := .cells #[ptr Wg] 137) hF.1.wg.1 hF.2)
    generalize hb : w₇.heap.size = bw at hF ⊢
    generalize w₇.alloc (.cells #[ptr Wg] 137) = w₈ at hF ⊢
    clear hb
    refine go1_op rfl rfl (by k_ne) (fun w₉ h₉ K hK => ?_)
    replace hF := rlx hF h₉
    clear h₉
    go_simp
    refine hK _ _ ⟨_, dm_alloc (fun e he => ?_), ?_⟩
    · have hm := mem_listed he
      simp [go_sem, storedEv, *] at hm
    clear hK K
    replace hF := And.intro (hF.1.alloc T (.func (.func 126) #[] #[ptr b1, ptr bn, ptr bk, ptr bd]) 1) (live_alloc (o := .cells #[.func (.func 126) #[] #[ptr b1, ptr bn, ptr bk, ptr bd]] 1) hF.1.wg.1 hF.2)
    generalize hb : w₉.heap.size = bf at hF ⊢
    generalize w₉.alloc (.cells #[.func (.func 126) #[] #[ptr b1, ptr bn, ptr bk, ptr bd]] 1) = wA at hF ⊢
    clear hb
    refine gm_go (n := 40) ?_
    (u_in rlx hF; rw [stepG_region_end]; simp only [goes_go]; refine ⟨by (refine de1_none ?_; intro e he; simp at he), ?_⟩)
    (u_in rlx hF; rw [stepG_seq]; simp only [goes_go]; refine ⟨by (refine de1_none ?_; intro e he; simp at he), ?_⟩)
    (u_in rlx hF; rw [stepG_region]; simp only [goes_go, List.size_toArray, List.length_cons, List.length_nil, Nat.reduceAdd, Nat.zero_add, List.range, List.range.loop]; refine ⟨by (refine de1_none ?_; intro e he; simp at he), ?_⟩)
    g_opw rlx hF [hF.1.cell (b := bw) (v := ptr Wg) (t := 137) (by simp)] rfl (.inl ⟨_, rfl, .inl (.inl (.inr rfl)), rfl⟩)
    u_in rlx hF
    refine goes_call rfl rfl (by k_ne) rfl wgLib.f_add (nm_add link) rfl ⟨by (refine de1_none ?_; intro e he; simp at he), ?_⟩
    walk_nrmf addFn
    refine Goes.stop fun wB hB => ?_
    replace hF := rlx hF hB
    clear hB
    generalize hSS : (fun b => ((False ∨ b = b1) ∨ b = bw) ∨ b = bf) = S at hF ⊢
    have hA := @addPos link Try.prog Wg C Rm S (SK Wg C bn bk bd n k fd capd Rm0 U [(bf, .func (.func 126) #[] #[ptr b1, ptr bn, ptr bk, ptr bd], 1), (bw, ptr Wg, 137), (b1, .int .i64 j, 3)] Rm S) mine Fact (k - (r + 1))
      (Spawns Try.prog link.tWg Wg C mine Fact k (Fin Try.prog link.tWg Wg C (AnchS Wg C bn bk bd n k fd capd Rm0 U cs)) r)
    simp only [body_add, addFn, Option.getD_some] at hA
    refine hA wgLib (fun a b r h => SK.rely T h r) (fun a b r h => SK.aside T h r) ?_ wB hF
    clear hA hF
    intro wC hK hL
    have hF := And.intro hK hL
    clear hK hL
    refine gm_go (n := 40) ?_
    walk_nrm
    (u_in rlx hF; rw [stepG_region_end]; simp only [goes_go]; refine ⟨by (refine de1_none ?_; intro e he; simp at he), ?_⟩)
    (u_in rlx hF; rw [stepG_region]; simp only [goes_go, List.size_toArray, List.length_cons, List.length_nil, Nat.reduceAdd, Nat.zero_add, List.range, List.range.loop]; refine ⟨by (refine de1_none ?_; intro e he; simp at he), ?_⟩)
    u_in rlx hF
    refine goes_oper_k rfl rfl (by k_ne) (fun K hK => ?_)
    go_simp
    refine hK _ _ ⟨?_, ?_⟩
    · refine de1_none ?_
      intro e he
      have hm := mem_listed he
      simp [go_sem, *] at hm
    clear hK K
    try w_num
    refine Goes.stop fun wD hD => Go1.stop fun wE hE => ?_
    replace hF := rlx (rlx hF hD) hE
    clear hD hE
    have ej : k - (r + 1) = j := by omega
    have hjk : j < k := by omega
    have hS1 : S b1 ∧ S bw ∧ S bf := by rw [← hSS]; simp
    refine ⟨rfl, _, _, fun _ => False, fun b => Rm b ∨ S b, stepG_go_closure (f := 141) (cap := #[ptr bw, ptr bf]) rfl rfl (by k_ne) rfl rfl, rfl, fun b h => h.elim, fun b h => h.imp id fun h => ⟨h, id⟩, ?_, ?_⟩
    · obtain ⟨fn, code, f1, f2, f3⟩ := T.fn
      have hsub : ∀ x, Rm0 x → (fun b => Rm b ∨ S b) x := fun x hx => .inl (hF.1.r0 x hx)
      rw [ej]
      refine worker (bw := bw) (bf := bf) (b1 := b1) (bn := bn) (bk := bk) (bd := bd) (n := n) (k := k) (j := j) (fd := fd) (capd := capd) (J := J j) T.hn ⟨hk.1, by omega⟩ hjk f1 f2 f3 (fun i S a b => T.hJ j _ i S a b hsub) (fun S a b r => T.hF j S a b r.own r.out) (T.hdo j hjk _ bw bf b1 hsub) (T.hend j) ⟨?_, hF.2, ?_⟩ (T.h0 j _ hjk hF.1.u)
      · refine ⟨⟨hF.1.wg.1, id⟩, ⟨hF.1.c.1, id⟩, hF.1.cw, fun b h => h.elim, fun b h => ?_⟩
        rcases h with h | h
        · exact ⟨(hF.1.rm b h).1, id, (hF.1.rm b h).2.1⟩
        · exact ⟨hF.1.sm b h, id, fun e => hF.1.c.2 (e ▸ h)⟩
      · exact ⟨.inr hS1.2.1, .inr hS1.2.2, .inr hS1.1, .inl hF.1.rn, .inl hF.1.rk, .inl hF.1.rd, hF.1.cell (t := 137) (by simp), hF.1.cell (t := 1) (by simp), hF.1.cell (t := 3) (by simp), hF.1.cn, hF.1.ck, hF.1.cd⟩
    · replace hF : SK Wg C bn bk bd n k fd capd Rm0 U [] (fun b => Rm b ∨ (S b ∧ ¬ False)) (fun _ => False) wE ∧ WgLive link.tWg Wg wE := by
        refine ⟨⟨⟨hF.1.wg.1, id⟩, ⟨hF.1.c.1, id⟩, hF.1.cw, fun b h => ?_, fun b h => h.elim, fun x hx => .inl (hF.1.r0 x hx), .inl hF.1.rn, .inl hF.1.rk, .inl hF.1.rd, hF.1.cn, hF.1.ck, hF.1.cd, hF.1.u, by simp⟩, hF.2⟩
        rcases h with h | ⟨h, _⟩
        · exact ⟨(hF.1.rm b h).1, (hF.1.rm b h).2.1, (hF.1.rm b h).2.2.1, id⟩
        · exact ⟨hF.1.sm b h, fun e => hF.1.c.2 (e ▸ h), fun e => hF.1.wg.2 (e ▸ h), id⟩
      clear rlx
      generalize (fun b => Rm b ∨ (S b ∧ ¬ False)) = Rm' at hF ⊢
      have rl : ∀ {a b : World}, SK Wg C bn bk bd n k fd capd Rm0 U [] Rm' (fun _ => False) a ∧ WgLive link.tWg Wg a → RM link.tWg Wg C Rm' (fun _ => False) a b → SK Wg C bn bk bd n k fd capd Rm0 U [] Rm' (fun _ => False) b ∧ WgLive link.tWg Wg b := fun h r => ⟨h.1.rely T r, r.live h.2⟩
      refine spawns_seg (m := 40) ?_
      walk_nrm
      (u_in rl hF; rw [stepG_region_end]; simp only [goes_go]; refine ⟨by (refine de1_none ?_; intro e he; simp at he), ?_⟩)
      (u_in rl hF; rw [stepG_end]; simp only [goes_go]; refine ⟨by (refine de1_none ?_; intro e he; simp at he), ?_⟩)
      (u_in rl hF; refine goes_leave0 rfl rfl Try.func125 rfl ⟨by (refine de1_none ?_; intro e he; simp at he), ?_⟩; walk_nrm)
      (u_in rl hF; rw [stepG_region_end]; simp only [goes_go]; refine ⟨by (refine de1_none ?_; intro e he; simp at he), ?_⟩)
      (u_in rl hF; rw [stepG_inBlock]; simp only [goes_go]; refine ⟨by (refine de1_none ?_; intro e he; simp at he), ?_⟩)
      (u_in rl hF; rw [stepG_region]; simp only [goes_go, List.size_toArray, List.length_cons, List.length_nil, Nat.reduceAdd, Nat.zero_add, List.range, List.range.loop]; refine ⟨by (refine de1_none ?_; intro e he; simp at he), ?_⟩)
      have hw : IntKind.i64.wrap ((j : Int) + 1) = ((j + 1 : Nat) : Int) := by rw [IntKind.wrap_i64]; omega
      u_in rl hF
      refine goes_oper_k rfl rfl (by k_ne) (fun K hK => ?_)
      go_simp
      refine hK _ _ ⟨?_, ?_⟩
      · refine de1_none ?_
        intro e he
        have hm := mem_listed he
        simp [go_sem, *] at hm
      clear hK K
      try w_num
      u_in rl hF
      refine goes_oper_k rfl rfl (by k_ne) (fun K hK => ?_)
      go_simp
      refine hK _ _ ⟨?_, ?_⟩
      · refine de1_none ?_
        intro e he
        have hm := mem_listed he
        simp [go_sem, *] at hm
      clear hK K
      try w_num
      (u_in rl hF; rw [stepG_region_end]; simp only [goes_go]; refine ⟨by (refine de1_none ?_; intro e he; simp at he), ?_⟩)
      (u_in rl hF; rw [stepG_inLoop]; simp only [goes_go]; refine ⟨by (refine de1_none ?_; intro e he; simp at he), ?_⟩)
      refine Goes.stop fun w₁ h₁ => ?_
      have hx := ih (j + 1) (by omega) Rm' w₁
      simp only [ls, ls7, Try.f81] at hx
      exact hx _ _ _ _ _ _ _ _ (rl hF h₁).1 (rl hF h₁).2
end
end Go.Proofs.Ytmmolicodlmlkaa.Ph
