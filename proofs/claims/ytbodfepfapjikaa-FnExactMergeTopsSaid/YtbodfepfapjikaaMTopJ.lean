/-
  Words for MergeTops of the program: the stable sort over any slice of the call's own; an append inside a region that draws its order; tops in a box of their own.
-/
import Derived.Test.YtbodfepfapjikaaMTopH
namespace Go.Proofs.Ytbodfepfapjikaa
open Go.RowKit Go.Shelf
set_option linter.unusedVariables false
set_option linter.unusedSimpArgs false

theorem insertion_nil (fv : Value) (w : World) : Calls Try.prog 151 #[.slice none 0 0, .int .i64 0, .int .i64 0, fv] w fun e w' => e = .returned (.tuple #[]) ∧ w = w' := by
  go_enter Try.func151, Try.ntmps151
  go_wp2
  go_loop [8] (fun t => t = .int .i64 1) (fun _ => 0)
  case atStart => go_num
  case round =>
    subst hrel
    go_wp2
    go_end0
    exact ⟨rfl, rfl⟩
theorem stable_nil (fv : Value) (w : World) : Calls Try.prog 131 #[.slice none 0 0, .int .i64 0, fv] w fun e w' => e = .returned (.tuple #[]) ∧ w = w' := by
  have C1 := hid (insertion_nil fv w)
  go_enter Try.func131, Try.ntmps131
  go_wp2
  go_loop [7, 8] (fun a b => a = .int .i64 0 ∧ b = .int .i64 20) (fun _ _ => 0)
  case atStart => exact ⟨rfl, rfl⟩
  case round =>
    obtain ⟨rfl, rfl⟩ := hrel
    go_wp2_with fail
    refine C1.out.mono ?_
    rintro e w1 ⟨rfl, rfl⟩
    clear C1
    go_wp2
    go_loop [6] (fun a => a = .int .i64 20) (fun _ => 0)
    case atStart => rfl
    case round =>
      subst hrel
      go_wp2
      go_end0
      exact ⟨rfl, rfl⟩
theorem sort_nil (fv : Value) (w : World) : Calls Try.prog 93 #[.slice none 0 0, fv] w fun e w' => e = .returned (.tuple #[]) ∧ w = w' := by
  have C1 := hid (stable_nil fv w)
  go_enter Try.func93, Try.ntmps93
  go_wp2_with fail
  refine C1.out.mono ?_
  rintro e w1 ⟨rfl, rfl⟩
  clear C1
  go_wp2
  go_end0
  exact ⟨rfl, rfl⟩
theorem Bes.belowJ {g B B0 : Nat} {w w' : World} (h : Bes g B w w') (h0 : B0 ≤ g) (h1 : B0 ≤ B) : Below B0 w w' := ⟨h.os, h.tape, h.output, h.size, fun k hk => h.block k (by omega) (by omega)⟩
/-- The stable sort, over any slice of the call's own. -/
theorem sortOwn_any (B : Nat) (v : Value) (x : List Int) (f : Nat) (cb : Array Value) (cf : Int → Int → Int) (R : Int → Int → Prop) (E : Int → Prop) (w : World) (tr : ∀ a b c, R a b → R b c → R a c) (hO : OwnV w B v x) (hn : x.length ≤ 1048576) (hE : ∀ y ∈ x, E y) (hX : x.Pairwise (Cr (ltC cf) R))
    (hB : B ≤ w.heap.size) (hc : ∀ g, B ≤ g → v.ownBlock = some g → g < w.heap.size → CmpOk f cb g w.heap.size w E cf) :
    Calls Try.prog 93 #[v, .func (.func f) #[] cb] w fun e w' => ∃ M, e = .returned (.tuple #[]) ∧ Mg R x M ∧ OwnV w' B v M ∧ Below B w w' ∧ w.heap.size ≤ w'.heap.size ∧ (∀ g, g < w.heap.size → v.ownBlock ≠ some g → w'.heap[g]? = w.heap[g]?) := by
  have hO' := hO
  obtain ⟨hl, ⟨hv, h0⟩ | ⟨g, cap, cur, hv, hBg, hg, hcn, hm, hs, ht⟩⟩ := hO
  · obtain rfl : x = [] := List.length_eq_zero_iff.1 (by omega)
    subst hv
    refine (sort_nil (.func (.func f) #[] cb) w).mono ?_
    rintro e w' ⟨rfl, rfl⟩
    exact ⟨[], rfl, ⟨List.Perm.refl _, List.Pairwise.nil⟩, hO', Below.refl _ _, Nat.le_refl _, fun g _ _ => rfl⟩
  · subst hv
    rw [Nat.mul_one] at ht hs
    have hgl : g < w.heap.size := (Array.getElem?_eq_some_iff.1 hg).1
    have hcur : cur = ((x.map (Value.int .i64)) ++ cur.toList.drop x.length).toArray := by
      rw [← ht, List.take_append_drop]
    have hD : Dat w g (cur.toList.drop x.length) x := by
      unfold Dat Blk
      rw [← hcur]; exact hg
    have hlen : cur.size = x.length + (cur.toList.drop x.length).length := by
      have := congrArg Array.size hcur
      simpa using this
    refine (sortStable_any g w.heap.size cap x.length f cb (cur.toList.drop x.length) x cf R E w w tr (hc g hBg rfl hgl) hn (Bes.refl _ _ _) hE rfl hX hD).mono ?_
    rintro e w' ⟨M, rfl, hm', hD', hW'⟩
    have hML : M.length = x.length := hm'.1.length_eq
    refine ⟨M, rfl, hm', ?_, ⟨hW'.os, hW'.tape, hW'.output, hW'.size, fun k hk => hW'.block k (by omega) (by omega)⟩, hW'.size, fun g' h hne => hW'.block g' h (fun e => hne (by rw [e]; rfl))⟩
    · unfold OwnV
      rw [hML]
      refine ⟨by simp [hML], .inr ⟨g, cap, ((M.map (Value.int .i64)) ++ cur.toList.drop x.length).toArray, rfl, hBg, hD', hcn, hm, ?_, ?_⟩⟩
      · rw [Nat.mul_one]
        rw [hlen] at hs
        simpa [hML] using hs
      · rw [Nat.mul_one]
        show List.take x.length (M.map (Value.int .i64) ++ cur.toList.drop x.length) = _
        rw [List.take_append_of_le_length (by simp [hML]), List.take_of_length_le (by simp [hML])]
/-- An append at a step of a region that draws its order; the element lies in block g; other slices of the call's own stay. -/
theorem step_app_keep {ops : Array Oper} {o : Oper} {a : Act} {K : Act → World → Prop} {Q : Exit → Act → World → Prop} {E : Prop} (hgd : o.guard = none) (s x : Operand)
    (ho : o.op = .call { callee := .builtin .append, args := #[s, x], argTypes := #[22, 22] })
    (y : Int) (g : Nat) {w1 W : World} {B : Nat} {v : Value} {xs : List Int} (hown : OwnV w1 B v xs) (hg : Blk w1 g 2 [.int .i64 y]) (hs : a.eval s = v) (hx : a.eval x = .slice (some ⟨g, 0, none⟩) 1 1)
    (hl : xs.length ≤ 1048577) (hsz : B ≤ w1.heap.size) (hW : W.heap = w1.heap ∧ W.os = w1.os ∧ W.tape = w1.tape ∧ W.output = w1.output := by exact ⟨rfl, rfl, rfl, rfl⟩)
    (h : ∀ v' w', Hid (OwnV w' B v' (xs ++ [y])) → Hid (Below B w1 w') → Hid (Keeps w1 B v w' v') → K (a.put o.dst v') w') :
    if Region.wanted o (yielded ops a.tmps) = true then Oper.wp Try.prog o a W K Q else E := by
  obtain ⟨i0, hi0, hz0, hz1, hz2⟩ := info_parts Try.infoI
  have tr : ∀ {v : Value} {xs : List Int}, OwnV w1 B v xs → OwnV W B v xs := fun hown => by
    obtain ⟨hn, h | ⟨g, cap, cur, hv, hB, hgg, hc, hm, hs, ht⟩⟩ := hown
    · exact ⟨hn, .inl h⟩
    · exact ⟨hn, .inr ⟨g, cap, cur, hv, hB, by rw [hW.1]; exact hgg, hc, hm, hs, ht⟩⟩
  have hown' := tr hown
  have hB' : Below B w1 W := ⟨hW.2.1, hW.2.2.1, hW.2.2.2, by rw [hW.1]; exact Nat.le_refl _, fun k hk => by rw [hW.1]⟩
  have hg' : W.heap[g]? = some (.cells #[.int .i64 y] 2 (0, 0)) := by rw [hW.1]; exact hg
  refine step_append_lies _ hgd s x 22 ho B 2 i0 (.int .i64 0) 1 8 Try.underlying22 hi0 hz0 hz1 hz2 rfl (by decide) v xs.length _ hs hown' ⟨g, 0, none⟩ 1 1 [.int .i64 y] hx rfl (World.news_of_block (cs := #[.int .i64 y]) (t := 2) (fr := (0, 0)) hg') (by simp [Value.oneCell']) (by omega) (by simp only [maxLen]; omega) (by omega) (by rw [hW.1]; exact hsz) W.heap.size rfl ?_
  intro gg cap w' hown1 hgrow hat hlt'
  refine h _ w' ?_ ?_ ?_
  · have e : (xs ++ [y]).length = xs.length + 1 := by simp
    unfold OwnV
    rw [e, List.map_append]; exact hown1
  · exact hB'.grown hgrow (by rw [hW.1]; exact hsz) (fun k hk => (World.ownsRow.lt hown' k hk).1)
  · intro u ys hu hap
    refine ⟨(tr hu).grown hgrow (fun k hk e => hap k e.symm hk), fun k hk => ?_⟩
    injection hk with hk
    have hk' : gg = k := hk
    subst hk'
    rcases hat with hat | hat
    · exact hap gg hat
    · intro e
      have := ((tr hu).lt gg e).1
      omega
theorem w64J {a : Int} (h : -9223372036854775808 ≤ a ∧ a ≤ 9223372036854775807) : W64 a := by
  simpa [W64, Lit.wf, IntKind.min, IntKind.max, IntKind.signed, IntKind.bits] using h
theorem OwnV.rdJ {w : World} {B : Nat} {A : Option Addr} {n c : Nat} {xs : List Int} (h : OwnV w B (.slice A n c) xs) : RdL (Value.int .i64) w A xs := by
  obtain ⟨A', c', hv, hs⟩ := h.ownS
  injection hv with hv
  subst hv
  exact hs.rd
/-- Tops in a box that was made, then stored into. -/
theorem TpS.start2 (w : World) (z0 z1 z2 z3 : Value) (r : Int) : TpS (((((w.alloc (.cells #[z0, z1, z2, z3] 33)).setCell ⟨w.heap.size, 0, none⟩ (.int .i64 r)).setCell ⟨w.heap.size, 1, none⟩ (.slice none 0 0)).setCell ⟨w.heap.size, 2, none⟩ (.slice none 0 0)).setCell ⟨w.heap.size, 3, none⟩ (.slice none 0 0)) w.heap.size r (.slice none 0 0) (.slice none 0 0) (.slice none 0 0) [] [] [] :=
  ⟨((((Blk.new w 33 [z0, z1, z2, z3]).set_ 0 (.int .i64 r)).set_ 1 (.slice none 0 0)).set_ 2 (.slice none 0 0)).set_ 3 (.slice none 0 0), OwnV.nil _ _, OwnV.nil _ _, OwnV.nil _ _, fun g h => by simp [Value.ownBlock] at h, fun g h => by simp [Value.ownBlock] at h, fun g h => by simp [Value.ownBlock] at h⟩
end Go.Proofs.Ytbodfepfapjikaa
