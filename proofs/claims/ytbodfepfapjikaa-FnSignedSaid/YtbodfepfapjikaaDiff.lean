/-
  slices.Clone as a slice of the call's own with its capacity, and slices.Compact over an ordered one: how many elements it leaves.
-/
import Derived.Test.YtbodfepfapjikaaApp
import Derived.Test.YtbodfepfapjikaaSort
import Derived.Test.YtbodfepfapjikaaOwn
import Derived.Test.YtbodfepfapjikaaTopsP
import Derived.Shelf.SlicesE.Compact
import Derived.Lib.OwnBridge
namespace Go.Proofs.Ytbodfepfapjikaa
open Go.RowKit Go.Shelf Go.Sort
set_option linter.unusedVariables false

theorem OwnV.parts {w : World} {B : Nat} {v : Value} {xs : List Int} (h : OwnV w B v xs) : ∃ A c, v = .slice A xs.length c ∧ xs.length ≤ c ∧ OwnS (Value.int .i64) w B 2 A xs := by
  obtain ⟨A, c, hv, ho⟩ := h.ownS
  refine ⟨A, c, hv, ?_, ho⟩
  rcases h.2 with ⟨h0, h1⟩ | ⟨g, cap, cur, hv', hB, hg, hc, hm, hs, ht⟩
  · omega
  · rw [hv'] at hv
    injection hv with _ _ h3
    omega
set_option maxRecDepth 100000 in
set_option maxHeartbeats 800000 in
theorem cloneV_any (A : Option Addr) (c : Nat) (x : List Int) (w : World) (hx : RdL (Value.int .i64) w A x) (hn : x.length ≤ 1048576) :
    Calls Try.prog 63 #[.slice A x.length c] w fun e w' => ∃ v, e = .returned v ∧ OwnV w' w.heap.size v x ∧ Below w.heap.size w w' := by
  obtain ⟨i0, hi0, hz0, hz1, hz2⟩ := info_parts Try.infoI
  have q22 : ∀ (w : World) (a : Option Addr) (n c n' c' : Nat), (binOp .eql 22 (.slice a n c) (.slice none n' c')).run Try.prog w = .ok (.bool a.isNone) w := fun w a n c n' c' => Lib.run_eql_slice_nil w _ _ a n c n' c' Try.underlying22
  cases A with
  | none =>
    obtain rfl := rd_none hx
    go_enter Try.func63, Try.ntmps63
    go_wp2
    go_ret
    exact ⟨.slice none 0 0, rfl, ⟨rfl, .inl ⟨rfl, rfl⟩⟩, Below.refl _ _⟩
  | some ad =>
    have HX := hid hx
    clear hx
    go_enter Try.func63, Try.ntmps63
    go_wp2_with (at_builtin; refine wpList_append_own _ rfl _ _ 22 rfl w.heap.size 2 i0 (.int .i64 0) 1 8 Try.underlying22 hi0 hz0 hz1 hz2 rfl (by decide) _ 0 [] rfl (World.ownsRow_made w #[] 0 (Nat.le_refl _) (Nat.zero_le _) rfl) ad x.length c (x.map (Value.int .i64)) rfl ?c1 (rd_news (HX.out.below (below_a1 _ _))) ?c2 ?c3 ?c4 ?c5 ?_)
    case c1 => simp
    case c2 => intro u hu; obtain ⟨y, _, rfl⟩ := List.mem_map.1 hu; rfl
    case c3 => simp only [maxLen]; omega
    case c4 => omega
    case c5 => simp
    intro v' w1 hown' hgrow _
    have O1 := hid hown'
    have W1 : Hid (Below w.heap.size w w1) := ((Below.refl _ w).alloc (Nat.le_refl _) _).grown hgrow (by simp) (by intro k hk; simp [Value.ownBlock] at hk; omega)
    clear hown' hgrow
    go_wp2
    go_ret
    refine ⟨v', rfl, ?_, W1.out⟩
    unfold OwnV
    first | exact O1.out | simpa using O1.out
def laysCompact_ren : Go.Shelf.Ren := ⟨fun | 43 => 116 | n => n, fun | 22 => 22 | 23 => 2 | 3 => 3 | 4 => 4 | 0 => 0 | n => n, fun | n => n⟩
theorem laysCompact : Go.Proofs.SlLaysE.n43 Try.prog laysCompact_ren := {
  mixed := by kernel_rfl,
  f43 := ⟨ "slices.Compact[[]int64,int64]", by decide, Try.func116.trans (congrArg some (by kernel_rfl))⟩,
  t0 := Try.underlying0,
  a0 := Try.isAgg0,
  z0 := Try.sizeOf0,
  v0 := Try.zeroValue0,
  t3 := Try.underlying3,
  a3 := Try.isAgg3,
  z3 := Try.sizeOf3,
  v3 := Try.zeroValue3,
  t4 := Try.underlying4,
  a4 := Try.isAgg4,
  z4 := Try.sizeOf4,
  v4 := Try.zeroValue4,
  t22 := Try.underlying22,
  a22 := Try.isAgg22,
  z22 := Try.sizeOf22,
  v22 := Try.zeroValue22,
  a23 := Try.isAgg2,
  z23 := Try.sizeOf2 }
set_option maxHeartbeats 800000 in
theorem compact_none (A : Option Addr) (c : Nat) (w : World) : Calls Try.prog 116 #[.slice A 0 c] w fun e w' => e = .returned (.slice A 0 c) ∧ w = w' := by
  go_enter Try.func116, Try.ntmps116
  go_wp2
  go_ret
  exact ⟨rfl, rfl⟩
theorem compact_any (A : Option Addr) (c : Nat) (x : List Int) (w : World) (B : Nat) (ho : OwnS (Value.int .i64) w B 2 A x) (hB : B ≤ w.heap.size) (hn : x.length ≤ 1048576) (hc : x.length ≤ c) :
    Calls Try.prog 116 #[.slice A x.length c] w fun e w' => (∃ A' c', e = .returned (.slice A' (Go.Lib.compactUpTo x.toArray x.length).length c')) ∧ Below B w w' := by
  by_cases hne : x = []
  · subst hne
    refine (compact_none A c w).mono ?_
    rintro e w' ⟨rfl, rfl⟩
    exact ⟨⟨A, c, rfl⟩, Below.refl _ _⟩
  · obtain ⟨g, ex, rfl, hg, hb⟩ := ho hne
    have hH : Holds (Value.int .i64) w g 0 x.toArray := fun j hj => by
      have hj' : j < x.length := by simpa using hj
      rw [Nat.zero_add]
      refine ⟨hb.cell ?_, hb.frozen j⟩
      rw [List.getElem?_append_left (by simpa using hj'), List.getElem?_map, List.getElem?_eq_getElem hj', getElem!_pos _ j hj]
      simp
    refine (AnyE.slices_Compact laysCompact (Value.int .i64) (fun _ => rfl) (EqlAt.intD _ _ .i64) (NeqAt.intD _ _ .i64) 0 Try.zeroValue2 g 0 c x.toArray w hH (by simp; omega) (by simpa using hc)).mono ?_
    rintro e w' ⟨rfl, q, rfl⟩
    exact ⟨⟨_, _, rfl⟩, Lib.below_putRow (Below.refl _ _) hg⟩
set_option maxHeartbeats 800000 in
theorem areDifferent_any (A : Option Addr) (c : Nat) (x : List Int) (w : World) (hx : RdL (Value.int .i64) w A x) (hn : x.length ≤ 1048576) :
    Calls Try.prog 69 #[.slice A x.length c] w fun e w' => e = .returned (.bool (decide x.Nodup)) ∧ Below w.heap.size w w' := by
  have HX := hid hx
  clear hx
  have hSl := sortI_length x
  have hcs := compact_sorted x
  have hni := ascOf_len_iff x
  obtain ⟨S, hS⟩ : ∃ S, S = sortI x := ⟨_, rfl⟩
  rw [← hS] at hSl hcs
  obtain ⟨m, hm⟩ : ∃ m, m = (Go.Lib.compactUpTo S.toArray S.length).length := ⟨_, rfl⟩
  have HS := hid hS
  have HM := hid hm
  have hd : ((m : Int) == (x.length : Int)) = decide x.Nodup := by
    rw [hm, hcs, Bool.eq_iff_iff, beq_iff_eq, decide_eq_true_eq, ← hni]; omega
  have HD := hid hd
  clear hS hm hcs hni hd
  go_enter Try.func69, Try.ntmps69
  go_wp2_with fail
  refine (cloneV_any A c x _ HX.out hn).mono ?_
  rintro e w1 ⟨v, rfl, hO1, hb1⟩
  obtain ⟨A1, c1, rfl, hc1, ho1⟩ := hO1.parts
  have O1 := hid ho1
  have W1 := hid hb1
  clear hO1 hb1 ho1
  go_wp2_with fail
  refine (sort_any A1 c1 x w1 w.heap.size O1.out W1.out.size hn).mono ?_
  rintro e w2 ⟨rfl, hO2, hb2, _⟩
  rw [← HS.out] at hO2
  have OS := hid hO2
  have WS := hid (W1.out.trans hb2)
  have C1 : Hid (Calls Try.prog 116 #[.slice A1 x.length c1] w2 fun e w' => (∃ A' c', e = .returned (.slice A' m c')) ∧ Below w.heap.size w2 w') := by
    have h := compact_any A1 c1 S w2 w.heap.size OS.out WS.out.size (by omega) (by omega)
    rw [← HM.out, hSl] at h
    exact h
  clear hO2 hb2 O1 W1 OS
  go_wp2_with (go_at_call 116; with_reducible refine C1.out.mono ?_)
  rintro e w3 ⟨⟨A3, c3, rfl⟩, hb3⟩
  have W3 := hid (WS.out.trans hb3)
  clear hb3 C1
  go_wp2
  go_ret
  exact ⟨ret_bool HD.out, W3.out⟩
end Go.Proofs.Ytbodfepfapjikaa
