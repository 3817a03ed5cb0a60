/-
  Copies of the call's own: slices.Clone, and the reference's l04Own, by contracts.
-/
import Derived.Test.YtnngepnfljkbhaaCellPlace
import Derived.Lib.SliceRun
namespace Go.Proofs.Ytnngepnfljkbhaa
open Go.RowKit
set_option linter.unusedVariables false

theorem rd_news {α : Type} {f : α → Value} {w : World} {ad : Addr} {x : List α} (h : RdL f w (some ad) x) : ∀ j u, (x.map f)[j]? = some u → w.cell? (ad.add j) = some u := fun j u hu => by
  rw [List.getElem?_map] at hu
  by_cases hj : j < x.length
  · obtain ⟨b, o, hA, hc⟩ := h j hj
    injection hA with hA
    subst hA
    rw [List.getElem?_eq_getElem hj] at hu
    have : (⟨b, o, none⟩ : Addr).add j = ⟨b, o + j, none⟩ := by unfold Addr.add; split <;> simp_all
    rw [this, hc]
    simpa using hu
  · rw [List.getElem?_eq_none (by omega)] at hu
    cases hu
theorem rd_none {α : Type} {f : α → Value} {w : World} {x : List α} (h : RdL f w none x) : x = [] := by
  rcases x with _ | ⟨a, x⟩
  · rfl
  · obtain ⟨b, o, hA, _⟩ := h 0 (by simp)
    cases hA

theorem Try.infoB : (Try.prog.info? 4).map (fun i => (i.zero, i.size, i.bytes)) = some (some (.bool false), 1, 1) := by kernel_rfl
theorem OwnS.setFar {α : Type} {f : α → Value} {w : World} {B : Nat} {t : TypeId} {A : Option Addr} {xs : List α} (h : OwnS f w B t A xs) {p : Addr} (hp : p.block < B) (u : Value) : OwnS f (w.setCell p u) B t A xs := fun hn => by
  obtain ⟨g, ex, hA, hB, hb⟩ := h hn
  exact ⟨g, ex, hA, hB, hb.far (by omega) u⟩
theorem ownS_lit {α : Type} {f : α → Value} {w : World} {B : Nat} {e : TypeId} {g c n : Nat} {l : List Value} {xs : List α} (h : w.ownsRow B e 1 (.slice (some ⟨g, 0, none⟩) n c) n l) (hl : l = xs.map f) (hn : xs.length = n) : OwnS f w B e (some ⟨g, 0, none⟩) xs := by
  subst hl
  obtain ⟨A, c', hv, ho⟩ := ownS_of_row h hn
  injection hv with h1
  rw [h1]; exact ho
set_option maxRecDepth 100000 in
set_option maxHeartbeats 800000 in
theorem cloneI_any (A : Option Addr) (c : Nat) (x : List Int) (w : World) (hx : RdL (Value.int .i64) w A x) (hn : x.length ≤ 1048576) :
    Calls Try.prog 145 #[.slice A x.length c] w (RetL (Value.int .i64) 2 w x) := by
  obtain ⟨i0, hi0, hz0, hz1, hz2⟩ := info_parts Try.infoI
  have q22 : ∀ (w : World) (a : Option Addr) (n c n' c' : Nat), (binOp .eql 35 (.slice a n c) (.slice none n' c')).run Try.prog w = .ok (.bool a.isNone) w := fun w a n c n' c' => Lib.run_eql_slice_nil w _ _ a n c n' c' Try.underlying35
  cases A with
  | none =>
    obtain rfl := rd_none hx
    go_enter Try.func145, Try.ntmps145
    go_wp2
    go_ret
    exact ⟨none, 0, rfl, OwnS.nil, Below.refl _ _⟩
  | some ad =>
    have HX := hid hx
    clear hx
    go_enter Try.func145, Try.ntmps145
    go_wp2_with (at_builtin; refine wpList_append_own _ rfl _ _ 35 rfl w.heap.size 2 i0 (.int .i64 0) 1 8 Try.underlying35 hi0 hz0 hz1 hz2 rfl (by decide) _ 0 [] rfl (World.ownsRow_made w #[] 0 (Nat.le_refl _) (Nat.zero_le _) rfl) ad x.length c (x.map (Value.int .i64)) rfl ?c1 (rd_news (HX.out.below (below_a1 _ _))) ?c2 ?c3 ?c4 ?c5 ?_)
    case c1 => simp
    case c2 => intro u hu; obtain ⟨y, _, rfl⟩ := List.mem_map.1 hu; rfl
    case c3 => simp only [maxLen]; omega
    case c4 => omega
    case c5 => simp
    intro v' w1 hown' hgrow _
    have O1 := hid hown'
    have W1 : Hid (Below w.heap.size w w1) := ((Below.refl _ w).alloc (Nat.le_refl _) _).grown hgrow (by simp) (by intro k hk; simp [Value.ownBlock] at hk; omega)
    clear hown' hgrow
    go_wp2
    go_ret
    obtain ⟨A', c', hv, ho⟩ := ownS_of_row (f := (Value.int .i64)) (xs := x) (n := 0 + x.length) (by simpa using O1.out) (by simp)
    exact ⟨A', c', congrArg Ending.returned hv, ho, W1.out⟩
set_option maxRecDepth 100000 in
set_option maxHeartbeats 1600000 in
theorem l03Own_any (p c : Nat) (A : Option Addr) (r0 r1 r2 : Int) (x : List Int) (w : World) (h0 : w.cell? ⟨p, 0, none⟩ = some (.int .i64 r0)) (h1 : w.cell? ⟨p, 1, none⟩ = some (.int .i64 r1)) (h2 : w.cell? ⟨p, 2, none⟩ = some (.int .i64 r2)) (h3 : w.cell? ⟨p, 3, none⟩ = some (.slice A x.length c))
    (hx : RdL (Value.int .i64) w A x) (hpos : 0 < x.length) (hn : x.length ≤ 1048576) :
    Calls Try.prog 107 #[.pointer (some ⟨p, 0, none⟩)] w fun e w' => ∃ A' c', e = .returned (.agg #[.int .i64 r0, .int .i64 r1, .int .i64 r2, .slice A' x.length c']) ∧ OwnS (Value.int .i64) w' w.heap.size 2 A' x ∧ Below w.heap.size w w' := by
  obtain ⟨i0, hi0, hz0, hz1, hz2⟩ := info_parts Try.infoI
  obtain ⟨ad, rfl⟩ : ∃ ad, A = some ad := by
    obtain ⟨b, o, hA, _⟩ := hx 0 hpos
    exact ⟨_, hA⟩
  have HX := hid hx
  clear hx
  have hp := World.block_lt_of_cell? w _ h0
  go_enter Try.func107, Try.ntmps107
  go_wp2
  have hpne : w.heap.size ≠ p := by omega
  have hpne' : p ≠ w.heap.size := by omega
  have HN : ∀ j u, (x.map (Value.int .i64))[j]? = some u → (((w.alloc (.cells #[.int .i64 0, .int .i64 0, .int .i64 0, .slice none 0 0] 41)).alloc (.cells #[] 2)).drew).cell? (ad.add j) = some u := rd_news (RdL.drewN (HX.out.below (below_a2 w _ _)) 1)
  go_region_held3 (fun w' => w'.cell? ⟨p, 0, none⟩ = some (.int .i64 r0) ∧ w'.cell? ⟨p, 1, none⟩ = some (.int .i64 r1) ∧ w'.cell? ⟨p, 2, none⟩ = some (.int .i64 r2) ∧ w'.cell? ⟨p, 3, none⟩ = some (.slice (some ad) x.length c)) (first | go_keep | (refine ⟨?_, ?_, ?_, ?_⟩ <;> go_keep) | (go_split_ands; refine ⟨?_, ?_, ?_, ?_⟩ <;> (rw [hgrow.cell_far _ (by simp; omega) (by simp [Value.ownBlock]; omega)]; assumption)))
    (first | (refine step_append_lies _ (by rfl) _ _ _ (by rfl) (w.heap.size + 1) 2 i0 _ 1 8 Try.underlying35 hi0 hz0 hz1 hz2 rfl (by omega) _ 0 [] (by rfl) (row_start1 w _ _).drew ad x.length c (x.map (Value.int .i64)) (by rfl) (by simp) HN (by intro u hu; obtain ⟨y, _, rfl⟩ := List.mem_map.1 hu; rfl) hpos (by simp only [maxLen]; omega) (by omega) (by simp) (w.heap.size + 2) (by simp) ?_
              intro gg cap w1 hown1 hgrow hat hlt'
              have W1 : Hid (Below (w.heap.size + 1) (w.alloc (.cells #[.int .i64 0, .int .i64 0, .int .i64 0, .slice none 0 0] 41)) w1) := (((Below.refl _ _).alloc (by simp) _).drew).grown hgrow (by simp) (fun g hg => by simp [Value.ownBlock] at hg; omega)
              have B1 : Hid (Blk w1 w.heap.size 41 [.int .i64 0, .int .i64 0, .int .i64 0, .slice none 0 0]) := (W1.out.block w.heap.size (by omega)).trans (Blk.new w _ _)
              obtain ⟨c0, c1, c2, c3⟩ := B1.out.cells4
              have f0 := B1.out.frozen 0
              have f1 := B1.out.frozen 1
              have f2 := B1.out.frozen 2
              have f3 := B1.out.frozen 3))
  have O1 : Hid (OwnS (Value.int .i64) w1 (w.heap.size + 1) 2 (some ⟨gg, 0, none⟩) x) := ownS_lit (n := 0 + x.length) (by simpa using hown1) (by simp) (by simp)
  clear hown1 hgrow hat hlt' HN
  go_wp2
  refine bodyPost_ret (v := .agg #[.int .i64 r0, .int .i64 r1, .int .i64 r2, .slice (some ⟨gg, 0, none⟩) x.length cap]) (by simp [results, Try.results107, go_sem, c0, c1, c2, c3]) rfl ⟨some ⟨gg, 0, none⟩, cap, rfl, ?_, ?_⟩
  · exact (((((O1.out.setFar (by simp) _).setFar (by simp) _).setFar (by simp) _).setFar (by simp) _)).mono (by omega)
  · exact ((((((below_a1 _ _).trans (W1.out.mono (by omega))).setCell (by simp) _).setCell (by simp) _).setCell (by simp) _).setCell (by simp) _)
set_option maxRecDepth 100000 in
set_option maxHeartbeats 1600000 in
theorem l04OwnFingers_any (p c : Nat) (A : Option Addr) (r0 : Int) (x : List Int) (w : World) (h0 : w.cell? ⟨p, 0, none⟩ = some (.int .i64 r0)) (h1 : w.cell? ⟨p, 1, none⟩ = some (.slice A x.length c))
    (hx : RdL (Value.int .i64) w A x) (hpos : 0 < x.length) (hn : x.length ≤ 1048576) :
    Calls Try.prog 97 #[.pointer (some ⟨p, 0, none⟩)] w fun e w' => ∃ A' c', e = .returned (.agg #[.int .i64 r0, .slice A' x.length c']) ∧ OwnS (Value.int .i64) w' w.heap.size 2 A' x ∧ Below w.heap.size w w' := by
  obtain ⟨i0, hi0, hz0, hz1, hz2⟩ := info_parts Try.infoI
  obtain ⟨ad, rfl⟩ : ∃ ad, A = some ad := by
    obtain ⟨b, o, hA, _⟩ := hx 0 hpos
    exact ⟨_, hA⟩
  have HX := hid hx
  clear hx
  have hp := World.block_lt_of_cell? w _ h0
  go_enter Try.func97, Try.ntmps97
  go_wp2
  have hpne : w.heap.size ≠ p := by omega
  have hpne' : p ≠ w.heap.size := by omega
  have HN : ∀ j u, (x.map (Value.int .i64))[j]? = some u → (((w.alloc (.cells #[.int .i64 0, .slice none 0 0] 62)).alloc (.cells #[] 2)).drew).cell? (ad.add j) = some u := rd_news (RdL.drewN (HX.out.below (below_a2 w _ _)) 1)
  go_region_held3 (fun w' => w'.cell? ⟨p, 0, none⟩ = some (.int .i64 r0) ∧ w'.cell? ⟨p, 1, none⟩ = some (.slice (some ad) x.length c)) (first | go_keep | (refine ⟨?_, ?_⟩ <;> go_keep) | (go_split_ands; refine ⟨?_, ?_⟩ <;> (rw [hgrow.cell_far _ (by simp; omega) (by simp [Value.ownBlock]; omega)]; assumption)))
    (first | (refine step_append_lies _ (by rfl) _ _ _ (by rfl) (w.heap.size + 1) 2 i0 _ 1 8 Try.underlying35 hi0 hz0 hz1 hz2 rfl (by omega) _ 0 [] (by rfl) (row_start1 w _ _).drew ad x.length c (x.map (Value.int .i64)) (by rfl) (by simp) HN (by intro u hu; obtain ⟨y, _, rfl⟩ := List.mem_map.1 hu; rfl) hpos (by simp only [maxLen]; omega) (by omega) (by simp) (w.heap.size + 2) (by simp) ?_
              intro gg cap w1 hown1 hgrow hat hlt'
              have W1 : Hid (Below (w.heap.size + 1) (w.alloc (.cells #[.int .i64 0, .slice none 0 0] 62)) w1) := (((Below.refl _ _).alloc (by simp) _).drew).grown hgrow (by simp) (fun g hg => by simp [Value.ownBlock] at hg; omega)
              have B1 : Hid (Blk w1 w.heap.size 62 [.int .i64 0, .slice none 0 0]) := (W1.out.block w.heap.size (by omega)).trans (Blk.new w _ _)
              obtain ⟨c0, c1⟩ := B1.out.cells2
              have f0 := B1.out.frozen 0
              have f1 := B1.out.frozen 1))
  have O1 : Hid (OwnS (Value.int .i64) w1 (w.heap.size + 1) 2 (some ⟨gg, 0, none⟩) x) := ownS_lit (n := 0 + x.length) (by simpa using hown1) (by simp) (by simp)
  clear hown1 hgrow hat hlt' HN
  go_wp2
  refine bodyPost_ret (v := .agg #[.int .i64 r0, .slice (some ⟨gg, 0, none⟩) x.length cap]) (by simp [results, Try.results97, go_sem, c0, c1]) rfl ⟨some ⟨gg, 0, none⟩, cap, rfl, ?_, ?_⟩
  · exact (((O1.out.setFar (by simp) _).setFar (by simp) _)).mono (by omega)
  · exact ((((below_a1 _ _).trans (W1.out.mono (by omega))).setCell (by simp) _).setCell (by simp) _)
end Go.Proofs.Ytnngepnfljkbhaa
