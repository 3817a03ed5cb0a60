/-
  NewLayers: reference and program, by contracts.
-/
import Derived.Test.YtmafkkpdcajfoaaLayApp
import Derived.Test.YtmafkkpdcajfoaaNewCells
namespace Go.Proofs.Ytmafkkpdcajfoaa
open Go.RowKit
set_option linter.unusedVariables false
set_option linter.unusedSimpArgs false

/-- The first n layers. -/
def layL (a0 a1 s : Int) (z : List Int) (n : Nat) : List (Int × Int × Int × List Int) := (List.range n).map fun (j : Nat) => (a0, a1, (s + 100 * (j : Int)) % 4294967296, z)
theorem layL_succ (a0 a1 s : Int) (z : List Int) (n : Nat) : layL a0 a1 s z (n + 1) = layL a0 a1 s z n ++ [(a0, a1, (s + 100 * (n : Int)) % 4294967296, z)] := by simp [layL, List.range_succ]
theorem layL_length (a0 a1 s : Int) (z : List Int) (n : Nat) : (layL a0 a1 s z n).length = n := by simp [layL]
/-- What NewLayers returns. -/
def pNewLayers (a0 a1 a2 : Int) : List (Int × Int × Int × List Int) × Bool := if sidesB a0 a1 a2 = true then (layL a0 a1 a2 (List.replicate (a0 * a1).toNat 0) 8, true) else ([], false)
/-- A slice of cells of the call's own, and a truth value. -/
def RetCS (w : World) (p : List (Int × Int × Int × List Int) × Bool) (e : Ending) (w' : World) : Prop :=
  ∃ A c L, e = .returned (.tuple #[.slice A (List.length L) c, .bool p.2]) ∧ L.map Lay.plain = p.1 ∧ OwnC w' w.heap.size A L ∧ L.length ≤ 8 ∧ (∀ e ∈ L, e.x.length ≤ 384) ∧ Below w.heap.size w w'
theorem retCS_no {w : World} : ∀ (e : Ending) (w' : World), (e = .returned (.tuple #[.slice none 0 0, .bool false]) ∧ Below w.heap.size w w') → RetCS w ([], false) e w' := by
  rintro e w' ⟨rfl, hb⟩
  exact ⟨none, 0, [], rfl, rfl, ⟨fun q => absurd rfl q, fun i e h => by simp at h, fun i j e e' _ h => by simp at h⟩, by simp, by simp, hb⟩
theorem lay_len {L : List Lay} {a0 a1 s : Int} {z : List Int} {n : Nat} (h : L.map Lay.plain = layL a0 a1 s z n) : L.length = n ∧ ∀ e ∈ L, e.x = z := by
  have h1 := congrArg List.length h
  rw [layL_length, List.length_map] at h1
  refine ⟨h1, fun e he => ?_⟩
  have h2 : e.plain ∈ L.map Lay.plain := List.mem_map_of_mem he
  rw [h] at h2
  simp only [layL, List.mem_map, List.mem_range] at h2
  obtain ⟨j, _, hj⟩ := h2
  have h3 := congrArg (fun p => p.2.2.2) hj
  exact h3.symm
theorem salted_z (s : Nat) (k : Int) (w : World) (hs : s < 4294967296) (h0 : 0 ≤ k) (hk : k < 4294967296) :
    Calls Try.prog 25 #[.int .i64 s, .int .i64 k] w fun e w' => e = .returned (.int .i64 (((s : Int) + k) % 4294967296)) ∧ w = w' := by
  obtain ⟨k, rfl⟩ := Int.eq_ofNat_of_zero_le h0
  refine (salted_any s k w hs (by omega)).mono ?_
  rintro e w' ⟨rfl, rfl⟩
  exact ⟨ret_int (by unfold saltN; omega), rfl⟩
set_option maxRecDepth 100000 in
set_option maxHeartbeats 1600000 in
theorem iNewLayers_any (a0 a1 a2 : Int) (w : World) (h0 : W64 a0) (h1 : W64 a1) (h2 : W64 a2) :
    Calls Try.prog 8 #[.int .i64 a0, .int .i64 a1, .int .i64 a2] w (RetCS w (pNewLayers a0 a1 a2)) := by
  cases hk : inB a2 0 4294967295 with
  | false =>
    rw [show pNewLayers a0 a1 a2 = ([], false) by simp [pNewLayers, sidesB, hk]]
    refine Calls.mono ?_ retCS_no
    go_enter Try.func8, Try.ntmps8
    go_wp2
    go_loop [8, 13] (fun v i => i = .int .i64 0) (fun v i => 0)
    case atStart => rfl
    case round =>
      obtain rfl := hrel
      go_wp2_with ((go_at_call 23; refine (IsKey_any _ _).mono ?_; rintro e w' ⟨rfl, rfl⟩))
      go_ret2
      exact ⟨rfl, below_a1 _ _⟩
  | true =>
  obtain ⟨hk0, hk1⟩ := inB_iff.1 hk
  obtain ⟨s, rfl⟩ := Int.eq_ofNat_of_zero_le hk0
  have hsl : s < 4294967296 := by omega
  cases hs : sidesB a0 a1 s with
  | false =>
    have hs2 : sidesB a0 a1 (((s : Int) + 100 * ((0 : Nat) : Int)) % 4294967296) = false := by
      rw [show ((s : Int) + 100 * ((0 : Nat) : Int)) % 4294967296 = (s : Int) by omega]; exact hs
    rw [show pNewLayers a0 a1 s = ([], false) by simp [pNewLayers, hs]]
    refine Calls.mono ?_ retCS_no
    have C1 : Hid (∀ w', Calls Try.prog 24 #[.int .i64 a0, .int .i64 a1, .int .i64 s] w' (RetCl w' ((0, 0, 0, []), false))) := fun w' => by
      have h := iNewCells_any a0 a1 s w' h0 h1 h2
      rwa [pNewCells_no hs] at h
    have hse : Hid (((s : Int) + 0) % 4294967296 = s) := by show _ = _; omega
    clear hs2 hs
    go_enter Try.func8, Try.ntmps8
    go_wp2
    go_loop [8, 13] (fun v i => i = .int .i64 0) (fun v i => 0)
    case atStart => rfl
    case round =>
      obtain rfl := hrel
      go_wp2_with (first | (go_at_call 23; refine (IsKey_any _ _).mono ?_; rintro en w' ⟨rfl, rfl⟩) | (go_at_call 25; refine (salted_z s 0 _ hsl (by omega) (by omega)).mono ?_; rw [hse.out]; rintro en w' ⟨rfl, rfl⟩) | (go_at_call 24; with_reducible refine (C1.out _).mono ?_))
      rintro en w1 ⟨A1, c1, rfl, _, _, hb⟩
      have S1 := below_call (below_a1 _ _) hb
      clear hb
      go_wp2
      go_ret2
      have hz1 := S1.out.size
      exact ⟨rfl, S1.out.alloc hz1 _⟩
  | true =>
    rw [show pNewLayers a0 a1 s = (layL a0 a1 s (List.replicate (a0 * a1).toNat 0) 8, true) by simp [pNewLayers, hs]]
    obtain ⟨e0, e1, e2⟩ := sidesB_iff hs
    obtain ⟨hm0, hm1⟩ := mul_sides e0 e1
    obtain ⟨z, hz⟩ : ∃ z : List Int, z = List.replicate (a0 * a1).toNat 0 := ⟨_, rfl⟩
    have hz4 : z.length ≤ 384 := by rw [hz, List.length_replicate]; omega
    have C1 : Hid (∀ (q : Int) (w' : World), 0 ≤ q → q < 4294967296 → Calls Try.prog 24 #[.int .i64 a0, .int .i64 a1, .int .i64 q] w' (RetCl w' ((a0, a1, q, z), true))) := fun q w' hq0 hq1 => by
      have h := iNewCells_any a0 a1 q w' h0 h1 (w64_of_bounds ⟨by omega, by omega⟩)
      rw [pNewCells_yes (by simp only [sidesB, e0, e1, Bool.true_and]; exact inB_iff.2 ⟨hq0, by omega⟩), ← hz] at h
      exact h
    rw [← hz]
    clear hz hs e0 e1 e2 hm0 hm1
    go_enter Try.func8, Try.ntmps8
    go_wp2
    go_loopw [8, 13] (fun v i wr => ∃ k : Nat, k ≤ 8 ∧ i = .int .i64 k ∧ ∃ L, Hid (L.map Lay.plain = layL a0 a1 s z k) ∧ Hid (OwnVC wr w.heap.size v L) ∧ Hid (Below w.heap.size w wr)) (fun _ i _ => 8 - (intOf i).toNat)
    case atStart => exact ⟨0, by omega, rfl, [], rfl, OwnVC.made w (Nat.le_refl _), below_a1 _ _⟩
    case round =>
      obtain ⟨k, hk8, rfl, L, hL, hO, hW⟩ := hrel
      have hll := lay_len hL.out
      have hLl := hll.1
      have HLX := hid hll.2
      clear hll
      by_cases hlt : k < 8
      · have hi : (k : Int) < 8 := by omega
        have v1 : IntKind.i64.wrap (100 * (k : Int)) = 100 * (k : Int) := by rw [IntKind.wrap_i64]; omega
        have hLb : L.length ≤ 1048576 := by omega
        have HLl := hid hLl
        obtain ⟨q, hq⟩ : ∃ q, q = ((s : Int) + 100 * (k : Int)) % 4294967296 := ⟨_, rfl⟩
        have hq0 : 0 ≤ q := by omega
        have hq1 : q < 4294967296 := by omega
        have C2 : Hid (∀ w', Calls Try.prog 25 #[.int .i64 s, .int .i64 (100 * (k : Int))] w' fun e w'' => e = .returned (.int .i64 q) ∧ w' = w'') := fun w' => hq ▸ salted_z s _ w' hsl (by omega) (by omega)
        have HQ := hid hq
        clear hLl hq
        go_wp2_with (first | (go_at_call 23; refine (IsKey_any _ _).mono ?_; rintro en w' ⟨rfl, rfl⟩) | (go_at_call 25; with_reducible refine (C2.out _).mono ?_; rintro en w' ⟨rfl, rfl⟩) | (go_at_call 24; with_reducible refine (C1.out q _ hq0 hq1).mono ?_))
        rintro e w1 ⟨A1, c1, rfl, ho, _, hb⟩
        have O1 := hid (hO.out.below hb)
        have W1 := hid (hW.out.trans (hb.mono hW.out.size))
        have E1 := hid (ho.mono hW.out.size)
        have AP : Hid (∀ (i : Nat) (f : Lay), L[i]? = some f → Apart f.A f.x.length A1 z.length) := fun i f hf => OwnS.apart_lt (hO.out.own i f hf) ho (Nat.le_refl _)
        clear ho hb hO hW
        have HB : ∀ (o : Obj), Below w1.heap.size w1 (w1.alloc o) := fun o => below_a1 w1 o
        have hz1 := W1.out.size
        have HHB := hid HB
        clear HB
        go_wp2_with (at_builtin; refine app_lay rfl _ _ rfl ⟨a0, a1, q, A1, c1, z⟩ (by exact O1.out.below (HHB.out _)) (by exact W1.out.trans ((HHB.out _).mono hz1)) (by exact E1.out.below (HHB.out _)) AP.out rfl (by first | rfl | (show Value.slice (some ⟨w1.heap.size + 1, 0, none⟩) 1 1 = _; simp)) hLb (by simp; omega) ?_)
        intro v' w2 O2 W2
        have hL2 : Hid ((L ++ [(⟨a0, a1, q, A1, c1, z⟩ : Lay)]).map Lay.plain = layL a0 a1 s z (k + 1)) := by
          show _ = _
          rw [List.map_append, hL.out, layL_succ, HQ.out]; rfl
        go_wp2
        exact ⟨⟨k + 1, by omega, by go_num, _, hL2, O2, W2⟩, by simp [intOf]; omega⟩
      · have hi : ¬ (k : Int) < 8 := by omega
        obtain rfl : k = 8 := by omega
        obtain ⟨A, c, rfl, hoc⟩ := hO.out.parts
        have HOC := hid hoc
        clear hoc hO
        go_wp2
        go_ret2
        exact ⟨A, c, L, by rw [hLl]; rfl, hL.out, HOC.out, by omega, fun e he => by rw [HLX.out e he]; exact hz4, hW.out⟩
end Go.Proofs.Ytmafkkpdcajfoaa
