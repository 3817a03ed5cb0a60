/-
  Words for tops that are merged: a slice that came in appended to an empty one; the capacity of a slice of the call's own; tops handed back.
-/
import Derived.Test.YtbodfepfapjikaaMTopP
import Derived.Test.YtbodfepfapjikaaApp
import Derived.Test.YtbodfepfapjikaaStTops
import Derived.OwnWalk
namespace Go.Proofs.Ytbodfepfapjikaa
open Go.RowKit
set_option linter.unusedVariables false
set_option linter.unusedSimpArgs false

theorem OwnV.cap {w : World} {B n c : Nat} {A : Option Addr} {xs : List Int} (h : OwnV w B (.slice A n c) xs) : xs.length ≤ c ∧ c ≤ 9223372036854775807 ∧ n = xs.length := by
  obtain ⟨hn, h | ⟨g, cap, cur, hv, hB, hg, hc, hm, hs, ht⟩⟩ := h
  · obtain ⟨h1, h2⟩ := h
    injection h1 with h3 h4 h5
    subst h4 h5
    omega
  · injection hv with h3 h4 h5
    subst h4 h5
    simp only [maxLen] at hm
    omega
theorem run_append_nil {P : Program} (w : World) (base : Nat) (t ty e : TypeId) (i : TypeInfo) (size : Nat) (ht : P.underlying t = some (.slice e)) (hi : P.info? e = some i)
    (v : Value) (n : Nat) (xs : List Value) (hown : w.ownsRow base e size v n xs) (c : Nat) : (Builtin.append_ #[t, t] ty #[v, .slice none 0 c]).run P w = .ok v w := by
  rcases hown.2 with ⟨rfl, rfl⟩ | ⟨g, cap, cur, rfl, _, _, hnc, _⟩
  · simp [Builtin.append_, run_underlying ht, sizeOf, typeInfo, hi, Builtin.lenOf, Builtin.firstCells]
  · simp [Builtin.append_, run_underlying ht, sizeOf, typeInfo, hi, Builtin.lenOf, Builtin.firstCells, hnc, storeCells]
/-- A slice that came in, appended to a new empty one. -/
theorem app_src {ops : Array Oper} {rest : List Oper} {o : Oper} {a : Act} {Q : Exit → Act → World → Prop} (hgd : o.guard = none) (s x : Operand)
    (ho : o.op = .call { callee := .builtin .append, args := #[s, x], argTypes := #[22, 22] })
    (A : Option Addr) (c : Nat) (xs : List Int) {w0 wr : World} {B : Nat} (hr : RdL (Value.int .i64) wr A xs) (hB : Below B w0 wr) (hs : a.eval s = .slice (some ⟨wr.heap.size, 0, none⟩) 0 0) (hx : a.eval x = .slice A xs.length c)
    (hl : xs.length ≤ 1048577) (hsz : B ≤ wr.heap.size)
    (h : ∀ v' w', Hid (OwnV w' B v' xs) → Hid (Below B w0 w') → Hid (wr.heap.size + 1 ≤ w'.heap.size) → wpList Try.prog ops Q rest (a.put o.dst v') w') :
    wpList Try.prog ops Q (o :: rest) a (wr.alloc (.cells #[] 2)) := by
  obtain ⟨i0, hi0, hz0, hz1, hz2⟩ := info_parts Try.infoI
  have hmade : (wr.alloc (.cells #[] 2)).ownsRow B 2 1 (.slice (some ⟨wr.heap.size, 0, none⟩) 0 0) 0 [] := World.ownsRow_made wr #[] 0 hsz (Nat.zero_le _) rfl
  cases A with
  | none =>
    obtain rfl := rd_none hr
    refine wpList_plain hgd fun K hK => ?_
    have hrun := run_append_nil (P := Try.prog) (wr.alloc (.cells #[] 2)) B 22 o.type 2 i0 1 Try.underlying22 hi0 _ _ _ hmade c
    unfold Oper.wp
    simp [execOp, ho, resolve, invoke, builtin, hs, hx, hrun, Result.andThen]
    exact hK _ _ (h _ _ hmade (hB.alloc hsz _) (by show _ ≤ _; simp))
  | some ad =>
    refine wpList_append_own _ hgd s x 22 ho B 2 i0 (.int .i64 0) 1 8 Try.underlying22 hi0 hz0 hz1 hz2 rfl (by decide) _ 0 [] hs hmade ad xs.length c (xs.map (Value.int .i64)) hx (by simp) (rd_news (hr.below (below_a1 _ _))) (by intro u hu; obtain ⟨y, _, rfl⟩ := List.mem_map.1 hu; rfl) (by simp only [maxLen]; omega) (by omega) (by simp; omega) ?_
    intro v' w1 hown' hgrow _
    refine h v' w1 ?_ ?_ ?_
    · have h1 : w1.ownsRow B 2 1 v' xs.length (xs.map (Value.int .i64)) := by simpa using hown'
      exact h1
    · exact (hB.alloc hsz _).grown hgrow (by simp; omega) (by intro k hk; simp [Value.ownBlock] at hk; omega)
    · have := hgrow.size; show _ ≤ _; simp at this; omega
theorem OwnS.take {w : World} {B : Nat} {t : TypeId} {A : Option Addr} {xs : List Int} (h : OwnS (Value.int .i64) w B t A xs) (n : Nat) : OwnS (Value.int .i64) w B t A (xs.take n) := fun hn => by
  obtain ⟨g, ex, hA, hB, hb⟩ := h (by rintro rfl; simp at hn)
  refine ⟨g, (xs.drop n).map (Value.int .i64) ++ ex, hA, hB, ?_⟩
  rw [← List.append_assoc, ← List.map_append, List.take_append_drop]
  exact hb
theorem aptV_apart2 {A A' : Option Addr} {n m n' m' c c' : Nat} (h : AptV (.slice A n c) (.slice A' m c')) : Apart A n' A' m' := .inr (.inr fun g o g' o' h1 h2 e => by
  subst e h1 h2
  exact h g rfl rfl)
/-- It hands back tops of its own, and yes or no. -/
def RetTp (w : World) (p : (Int × List Int × List Int × List Int) × Bool) (e : Ending) (w' : World) : Prop := ∃ A1 c1 A2 c2 A3 c3,
  e = .returned (.tuple #[.agg #[.int .i64 p.1.1, .slice A1 p.1.2.1.length c1, .slice A2 p.1.2.2.1.length c2, .slice A3 p.1.2.2.2.length c3], .bool p.2]) ∧
  OwnS (Value.int .i64) w' w.heap.size 2 A1 p.1.2.1 ∧ p.1.2.1.length ≤ 1048576 ∧ OwnS (Value.int .i64) w' w.heap.size 2 A2 p.1.2.2.1 ∧ p.1.2.2.1.length ≤ 1048576 ∧
  OwnS (Value.int .i64) w' w.heap.size 2 A3 p.1.2.2.2 ∧ p.1.2.2.2.length ≤ 1048576 ∧
  Apart A1 p.1.2.1.length A2 p.1.2.2.1.length ∧ Apart A1 p.1.2.1.length A3 p.1.2.2.2.length ∧ Apart A2 p.1.2.2.1.length A3 p.1.2.2.2.length ∧ Below w.heap.size w w'
theorem retTp_no {w : World} : ∀ (e : Ending) (w' : World), (e = .returned (.tuple #[.agg #[.int .i64 0, .slice none 0 0, .slice none 0 0, .slice none 0 0], .bool false]) ∧ Below w.heap.size w w') → RetTp w ((0, [], [], []), false) e w' :=
  fun e w' ⟨he, hb⟩ => ⟨none, 0, none, 0, none, 0, he, OwnS.nil, by simp, OwnS.nil, by simp, OwnS.nil, by simp, .inl rfl, .inl rfl, .inl rfl, hb⟩
/-- Tops that are being made: the box q and its three slices of the call's own. -/
structure TpS (w : World) (q : Nat) (r : Int) (vK vC vE : Value) (K C E : List Int) : Prop where
  box : Blk w q 33 [.int .i64 r, vK, vC, vE]
  k : OwnV w (q + 1) vK K
  c : OwnV w (q + 1) vC C
  e : OwnV w (q + 1) vE E
  kc : AptV vK vC
  ke : AptV vK vE
  ce : AptV vC vE
section
variable {w w' : World} {q : Nat} {r : Int} {vK vC vE : Value} {K C E : List Int}
theorem TpS.drewN (h : TpS w q r vK vC vE K C E) (n : Nat) : TpS (w.drewN n) q r vK vC vE K C E := ⟨h.box, h.k, h.c, h.e, h.kc, h.ke, h.ce⟩
theorem TpS.drew1 (h : TpS w q r vK vC vE K C E) : TpS w.drew q r vK vC vE K C E := ⟨h.box, h.k, h.c, h.e, h.kc, h.ke, h.ce⟩
theorem TpS.below (h : TpS w q r vK vC vE K C E) (hb : Below w.heap.size w w') : TpS w' q r vK vC vE K C E := ⟨h.box.below hb, h.k.below hb, h.c.below hb, h.e.below hb, h.kc, h.ke, h.ce⟩
theorem OwnV.notB {B : Nat} {v : Value} {xs : List Int} (h : OwnV w B v xs) {q : Nat} (hq : q < B) : v.ownBlock ≠ some q := fun e => by have := (h.lt q e).2; omega
theorem OwnV.fieldSet {B : Nat} {v : Value} {xs : List Int} (h : OwnV w B v xs) (hq : q < B) (i : Nat) (u : Value) : OwnV (w.setCell ⟨q, i, none⟩ u) B v xs := h.setOther (h.notB hq) i u
theorem TpS.cells (h : TpS w q r vK vC vE K C E) : w.cell? ⟨q, 0, none⟩ = some (.int .i64 r) ∧ w.cell? ⟨q, 1, none⟩ = some vK ∧ w.cell? ⟨q, 2, none⟩ = some vC ∧ w.cell? ⟨q, 3, none⟩ = some vE := h.box.cells4
theorem TpS.fieldK (h : TpS w q r vK vC vE K C E) {v' : Value} {Y : List Int} (ho : OwnV w' (q + 1) v' Y) (hk : Keeps w (q + 1) vK w' v') (hb : Below (q + 1) w w') : TpS (w'.setCell ⟨q, 1, none⟩ v') q r v' vC vE Y C E := by
  have k1 := hk _ _ h.c h.kc
  have k2 := hk _ _ h.e h.ke
  have hB : Blk w' q 33 [.int .i64 r, vK, vC, vE] := (hb.block q (Nat.lt_succ_self q)).trans h.box
  exact ⟨hB.set_ 1 v', (ho.fieldSet (Nat.lt_succ_self q) _ _), (k1.1.fieldSet (Nat.lt_succ_self q) _ _), (k2.1.fieldSet (Nat.lt_succ_self q) _ _), k1.2, k2.2, h.ce⟩
theorem TpS.putK (h : TpS w q r vK vC vE K C E) {j : Nat} (hj : j < K.length) : ∃ g c u, vK = .slice (some ⟨g, 0, none⟩) K.length c ∧ q < g ∧ g < w.heap.size ∧ w.cell? ⟨g, j, none⟩ = some (.int .i64 u) ∧ w.frozen? ⟨g, j, none⟩ = false ∧ Hid (K[j]? = some u) ∧
    ∀ x, Hid (TpS (w.setCell ⟨g, j, none⟩ (.int .i64 x)) q r vK vC vE (K.set j x) C E) := by
  obtain ⟨g, c, u, hv, hgB, hgl, hc, hf, hu, hput⟩ := h.k.put hj
  have n1 : vC.ownBlock ≠ some g := h.kc g (by rw [hv]; rfl)
  have n2 : vE.ownBlock ≠ some g := h.ke g (by rw [hv]; rfl)
  exact ⟨g, c, u, hv, by omega, hgl, hc, hf, hu, fun x => hid ⟨h.box.far (show q ≠ g by omega) _, (hput x).out, (h.c.setOther (n1) j _), (h.e.setOther (n2) j _), h.kc, h.ke, h.ce⟩⟩
theorem TpS.fieldC (h : TpS w q r vK vC vE K C E) {v' : Value} {Y : List Int} (ho : OwnV w' (q + 1) v' Y) (hk : Keeps w (q + 1) vC w' v') (hb : Below (q + 1) w w') : TpS (w'.setCell ⟨q, 2, none⟩ v') q r vK v' vE K Y E := by
  have k1 := hk _ _ h.k h.kc.symm
  have k2 := hk _ _ h.e h.ce
  have hB : Blk w' q 33 [.int .i64 r, vK, vC, vE] := (hb.block q (Nat.lt_succ_self q)).trans h.box
  exact ⟨hB.set_ 2 v', (k1.1.fieldSet (Nat.lt_succ_self q) _ _), (ho.fieldSet (Nat.lt_succ_self q) _ _), (k2.1.fieldSet (Nat.lt_succ_self q) _ _), k1.2.symm, h.ke, k2.2⟩
theorem TpS.putC (h : TpS w q r vK vC vE K C E) {j : Nat} (hj : j < C.length) : ∃ g c u, vC = .slice (some ⟨g, 0, none⟩) C.length c ∧ q < g ∧ g < w.heap.size ∧ w.cell? ⟨g, j, none⟩ = some (.int .i64 u) ∧ w.frozen? ⟨g, j, none⟩ = false ∧ Hid (C[j]? = some u) ∧
    ∀ x, Hid (TpS (w.setCell ⟨g, j, none⟩ (.int .i64 x)) q r vK vC vE K (C.set j x) E) := by
  obtain ⟨g, c, u, hv, hgB, hgl, hc, hf, hu, hput⟩ := h.c.put hj
  have n1 : vK.ownBlock ≠ some g := h.kc.symm g (by rw [hv]; rfl)
  have n2 : vE.ownBlock ≠ some g := h.ce g (by rw [hv]; rfl)
  exact ⟨g, c, u, hv, by omega, hgl, hc, hf, hu, fun x => hid ⟨h.box.far (show q ≠ g by omega) _, (h.k.setOther (n1) j _), (hput x).out, (h.e.setOther (n2) j _), h.kc, h.ke, h.ce⟩⟩
theorem TpS.fieldE (h : TpS w q r vK vC vE K C E) {v' : Value} {Y : List Int} (ho : OwnV w' (q + 1) v' Y) (hk : Keeps w (q + 1) vE w' v') (hb : Below (q + 1) w w') : TpS (w'.setCell ⟨q, 3, none⟩ v') q r vK vC v' K C Y := by
  have k1 := hk _ _ h.k h.ke.symm
  have k2 := hk _ _ h.c h.ce.symm
  have hB : Blk w' q 33 [.int .i64 r, vK, vC, vE] := (hb.block q (Nat.lt_succ_self q)).trans h.box
  exact ⟨hB.set_ 3 v', (k1.1.fieldSet (Nat.lt_succ_self q) _ _), (k2.1.fieldSet (Nat.lt_succ_self q) _ _), (ho.fieldSet (Nat.lt_succ_self q) _ _), h.kc, k1.2.symm, k2.2.symm⟩
theorem TpS.putE (h : TpS w q r vK vC vE K C E) {j : Nat} (hj : j < E.length) : ∃ g c u, vE = .slice (some ⟨g, 0, none⟩) E.length c ∧ q < g ∧ g < w.heap.size ∧ w.cell? ⟨g, j, none⟩ = some (.int .i64 u) ∧ w.frozen? ⟨g, j, none⟩ = false ∧ Hid (E[j]? = some u) ∧
    ∀ x, Hid (TpS (w.setCell ⟨g, j, none⟩ (.int .i64 x)) q r vK vC vE K C (E.set j x)) := by
  obtain ⟨g, c, u, hv, hgB, hgl, hc, hf, hu, hput⟩ := h.e.put hj
  have n1 : vK.ownBlock ≠ some g := h.ke.symm g (by rw [hv]; rfl)
  have n2 : vC.ownBlock ≠ some g := h.ce.symm g (by rw [hv]; rfl)
  exact ⟨g, c, u, hv, by omega, hgl, hc, hf, hu, fun x => hid ⟨h.box.far (show q ≠ g by omega) _, (h.k.setOther (n1) j _), (h.c.setOther (n2) j _), (hput x).out, h.kc, h.ke, h.ce⟩⟩
theorem OwnV.nil (w : World) (B : Nat) : OwnV w B (.slice none 0 0) [] := ⟨rfl, .inl ⟨rfl, rfl⟩⟩
theorem TpS.start (w : World) (r : Int) : TpS (w.alloc (.cells #[.int .i64 r, .slice none 0 0, .slice none 0 0, .slice none 0 0] 33)) w.heap.size r (.slice none 0 0) (.slice none 0 0) (.slice none 0 0) [] [] [] :=
  ⟨Blk.new w 33 [.int .i64 r, .slice none 0 0, .slice none 0 0, .slice none 0 0], OwnV.nil _ _, OwnV.nil _ _, OwnV.nil _ _, fun g h => by simp [Value.ownBlock] at h, fun g h => by simp [Value.ownBlock] at h, fun g h => by simp [Value.ownBlock] at h⟩
end
end Go.Proofs.Ytbodfepfapjikaa
