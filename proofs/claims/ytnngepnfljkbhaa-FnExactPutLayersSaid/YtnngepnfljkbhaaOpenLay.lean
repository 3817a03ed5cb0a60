/-
  A slice of cells that came in, opened: its elements' integers and counts.
-/
import Derived.Test.YtnngepnfljkbhaaOpen
import Derived.Test.YtnngepnfljkbhaaLay
import Derived.Deep.Slices
import Derived.Lib.SmallJoins
namespace Go.Proofs.Ytnngepnfljkbhaa
open Go.RowKit Go.ChangeShapes Go.WideShapes Go.Deep
set_option linter.unusedVariables false

section
variable {H : Type} {enc : TypeId × Value → H} {P : Program} {w : World}

theorem open_layL {t e es : TypeId} {f0 f1 f2 f3 : Field} {fuel : Nat} {v : Value} {x : DataW H × List MemPlace} (ht : P.underlying t = some (.slice e)) (he : P.underlying e = some (.struct #[f0, f1, f2, f3])) (ce : P.cellsOf e = 4)
    (o0 : f0.offset = 0) (o1 : f1.offset = 1) (o2 : f2.offset = 2) (o3 : f3.offset = 3) (c0 : P.cellsOf f0.type = 1) (c1 : P.cellsOf f1.type = 1) (c2 : P.cellsOf f2.type = 1) (c3 : P.cellsOf f3.type = 1)
    (u0 : P.underlying f0.type = some (.int .i64)) (u1 : P.underlying f1.type = some (.int .i64)) (u2 : P.underlying f2.type = some (.int .i64)) (u3 : P.underlying f3.type = some (.slice es)) (us : P.underlying es = some (.int .i64)) (cs : P.cellsOf es = 1)
    (h : DataW.trod enc P w 0 (fun _ => true) true fuel t [v] = some x) :
    ∃ A c L n, v = .slice A n c ∧ Hid (List.length L = n) ∧ n ≤ 9223372036854775807 ∧ RdC w A L ∧ ∀ e ∈ L, W64 e.a ∧ W64 e.b ∧ W64 e.s ∧ e.x.length ≤ 9223372036854775807 ∧ ∀ y ∈ e.x, W64 y := by
  rcases open_slice ht h with ⟨hcs, _⟩ | ⟨a, len, cap, m, n, D, Pl, hcs, hb, hl, hm, hmm, _, hx⟩
  · simp at hcs
    subst hcs
    exact ⟨none, 0, [], 0, rfl, rfl, by omega, fun i e hi => by simp at hi, by simp⟩
  · simp at hcs
    subst hcs
    obtain ⟨b, o, spot⟩ := a
    have hlm : len ≤ m := by rw [hmm]; split <;> omega
    have each : ∀ i, i < len → ∃ q : Lay, w.cell? ((⟨b, o, spot⟩ : Addr).add (i * 4)) = some (.int .i64 q.a) ∧ w.cell? ((⟨b, o, spot⟩ : Addr).add (i * 4 + 1)) = some (.int .i64 q.b) ∧ w.cell? ((⟨b, o, spot⟩ : Addr).add (i * 4 + 2)) = some (.int .i64 q.s) ∧
        w.cell? ((⟨b, o, spot⟩ : Addr).add (i * 4 + 3)) = some (.slice q.A q.x.length q.c) ∧ RdL (Value.int .i64) w q.A q.x ∧ W64 q.a ∧ W64 q.b ∧ W64 q.s ∧ q.x.length ≤ 9223372036854775807 ∧ ∀ y ∈ q.x, W64 y := by
      intro i hi
      obtain ⟨cs', h1, h2⟩ := hx i (by omega)
      rw [ce] at h1
      obtain ⟨_, hlen, hcell⟩ := World.cells?_some h1
      obtain ⟨y0, y1, y2, y3, k, _, _, g0, g1, g2, g3⟩ := Joins.trod_struct4 he h2
      match cs', hlen with
      | [v0, v1, v2, v3], _ =>
        simp [o0, o1, o2, o3, c0, c1, c2, c3] at g0 g1 g2 g3
        obtain ⟨z0, e0, -, w0⟩ := DataW.trod_int u0 g0
        obtain ⟨z1, e1, -, w1⟩ := DataW.trod_int u1 g1
        obtain ⟨z2, e2, -, w2⟩ := DataW.trod_int u2 g2
        simp only [List.cons.injEq, and_true] at e0 e1 e2
        subst e0 e1 e2
        obtain ⟨A3, k3, x3, n3, rfl, hl3, hm3, hx3, we3⟩ := open_intL u3 us cs g3
        obtain rfl := hl3.out
        have q0 := hcell 0 (by omega)
        have q1 := hcell 1 (by omega)
        have q2 := hcell 2 (by omega)
        have q3 := hcell 3 (by omega)
        rw [add_add] at q0 q1 q2 q3
        exact ⟨⟨z0, z1, z2, A3, k3, x3⟩, by simpa using q0, by simpa using q1, by simpa using q2, by simpa using q3, hx3, w0, w1, w2, hm3, we3⟩
    haveI : Inhabited Lay := ⟨⟨0, 0, 0, none, 0, []⟩⟩
    obtain ⟨q, hq⟩ := choose_lt each
    refine ⟨some ⟨b, o, spot⟩, cap, (List.range len).map q, len, rfl, by show List.length _ = _; simp, by simp only [maxLen] at hm; omega, ?_, ?_⟩
    · intro i f hf
      rw [List.getElem?_map] at hf
      by_cases hi : i < len
      · rw [List.getElem?_range hi] at hf
        simp at hf
        subst hf
        obtain ⟨r0, r1, r2, r3, r4, _⟩ := hq i hi
        obtain rfl : spot = none := by simpa [Addr.add] using World.cell?_spot (hq 0 (by omega)).1
        have hadd : ∀ k, (⟨b, o, none⟩ : Addr).add k = ⟨b, o + k, none⟩ := fun k => by unfold Addr.add; split <;> simp_all
        rw [hadd] at r0 r1 r2 r3
        exact ⟨⟨b, o, rfl, r0, by rw [Nat.add_assoc]; exact r1, by rw [Nat.add_assoc]; exact r2, by rw [Nat.add_assoc]; exact r3⟩, r4⟩
      · rw [List.getElem?_eq_none (by simpa using hi)] at hf
        simp at hf
    · intro f hf
      rw [List.mem_map] at hf
      obtain ⟨i, hi, rfl⟩ := hf
      exact (hq i (List.mem_range.1 hi)).2.2.2.2.2
end
end Go.Proofs.Ytnngepnfljkbhaa
