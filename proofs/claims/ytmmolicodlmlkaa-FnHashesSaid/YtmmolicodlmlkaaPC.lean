/-
  Parts of the proof: A goroutine's walk does not hang on the numbers of blocks: one step of the lone goroutine's is one step in company. A goroutine's walk does not hang on the numbers of blocks: every step of the lone goroutine's is one in company, or leads to no return. A goroutine's walk does not hang on the numbers of blocks: renamings along a path; panics lead to no return. One goroutine's own steps, in whatever company, bounded by a tree and not by a number; what it owns grows by what it makes. What the lone goroutine's run comes to, a goroutine in company comes to: it owns some blocks and reads some others, No condition.
-/
import Derived.Test.YtmmolicodlmlkaaPB
import Derived.Conc.Own
import Derived.Calls
import Derived.Conc.Own3
set_option linter.unusedVariables false
set_option linter.unusedSimpArgs false
namespace Go.Proofs.Ytmmolicodlmlkaa.Rel
open Go.Conc (G)
set_option linter.unusedVariables false
variable {X : Cx} {B : Nat}

theorem sr_asAddr {v v' : Value} (h : RV X B v v') : SR X (RA X) B (asAddr v) (asAddr v') := by
  obtain ⟨rfl, h⟩ := h
  cases v
  case pointer a =>
    cases a with
    | none =>
      show SR X (RA X) B (runtimePanic .nilDeref) _
      exact sr_runtimePanic trivial
    | some a =>
      rw [ren_pointer]
      exact .pure ⟨rfl, by simpa using h⟩
  all_goals exact sr_stuck
theorem sr_results {fn : Func} {a b : Array Value} (h : RC X B a b) (hr : fn.results.all resOk = true) : SR X (RV X) B (results fn a) (results fn b) := by
  unfold results
  refine SR.bind X (R := RC X) ?_ ?_
  · rw [Array.mapM_eq_mapM_toList, Array.mapM_eq_mapM_toList]
    have key : ∀ (l : List ResultVar) (B : Nat), RC X B a b → SR X (fun B (x y : List Value) => y = x.map (ren X.ρ) ∧ ∀ v ∈ x, okJ X.Fs B v = true) B
        (l.mapM fun | .tmp t => pure (a.getD t undef) | .cell x t => do loadVar t (← asAddr (a.getD x undef)))
        (l.mapM fun | .tmp t => pure (b.getD t undef) | .cell x t => do loadVar t (← asAddr (b.getD x undef))) := by
      intro l
      induction l with
      | nil => intro B h; exact .pure ⟨rfl, by simp⟩
      | cons r l ih =>
        intro B h
        rw [List.mapM_cons, List.mapM_cons]
        cases r with
        | cell x t =>
          refine SR.bind X (R := RV X) ((sr_asAddr (h.getD x)).bind X fun B1 u u' _ hu => sr_loadVar hu) ?_
          rintro B1 u u' hB1 hu
          refine (ih B1 ⟨h.1, fun v hv => okJ_mono _ hB1 _ (h.2 v hv)⟩).bind X ?_
          rintro B2 x y hB ⟨rfl, hx⟩
          refine .pure ⟨by rw [List.map_cons, ← hu.1], fun v hv => ?_⟩
          rcases List.mem_cons.1 hv with e | e
          · rw [e]; exact okJ_mono _ hB _ hu.2
          · exact hx v e
        | tmp t =>
          have ht := h.getD t
          refine (ih B h).bind X ?_
          rintro B1 x y hB ⟨rfl, hx⟩
          refine .pure ⟨by rw [List.map_cons, ← ht.1], fun v hv => ?_⟩
          rcases List.mem_cons.1 hv with e | e
          · rw [e]; exact okJ_mono _ hB _ ht.2
          · exact hx v e
    refine (key fn.results.toList B h).bind X ?_
    rintro B1 x y hB ⟨rfl, hx⟩
    exact .pure ⟨by simp, fun v hv => hx v (by simpa using hv)⟩
  · rintro B1 x y hB hc
    refine .pure ?_
    by_cases hs : x.size = 1
    · have hs' : y.size = 1 := by rw [hc.size]; exact hs
      rw [dif_pos hs, dif_pos hs']
      have := hc.get? 0
      rw [Array.getElem?_eq_getElem (by omega), Array.getElem?_eq_getElem (by omega)] at this
      exact this
    · have hs' : ¬ y.size = 1 := by rw [hc.size]; exact hs
      rw [dif_neg hs, dif_neg hs']
      exact ⟨by rw [ren_tuple, hc.1], by rw [okJ_tuple, Array.all_eq_true']; exact hc.2⟩
/-- What one step comes to. -/
inductive Out (X : Cx) (main : Bool) (kl kc : List Item) (csl csc : List Frame) (fl fc : Frame) (cl cc : List Frame) (wl v : World) : Prop
  | dead : (∃ o w es, stepG X.P true (G fl cl) wl = .ended o w es) → Out X main kl kc csl csc fl fc cl cc wl v
  | pan : (∃ ch w es, stepG X.P true (G fl cl) wl = .go (G (fl.raise ch) cl) w es) → Out X main kl kc csl csc fl fc cl cc wl v
  | ok {gl gc : Frame} {L L' : List Frame} {wl' v' : World} {es : Array Event} : stepG X.P true (G fl cl) wl = .go (G gl L) wl' es → stepG X.P main (G fc cc) v = .go (G gc L') v' (es.map (renE X)) →
      ST X wl'.heap.size kl kc csl csc (gl :: L) (gc :: L') → WR X wl' v' → Step X wl wl' v v' → Mono wl wl' → v' = opW X.P fc v → (∀ e ∈ es, evOk X wl'.heap.size e) → Out X main kl kc csl csc fl fc cl cc wl v
theorem mapE0 : (#[] : Array Event).map (renE X) = #[] := by simp
section
variable {main : Bool} {kl kc : List Item} {csl csc : List Frame} {fl fc : Frame} {cl cc : List Frame} {wl v : World}
theorem ST.fr {L L' : List Frame} (h : ST X B kl kc csl csc (fl :: L) (fc :: L')) : (FR X B kl kc fl fc ∧ L = csl ∧ L' = csc) ∨ (FR X B [] [] fl fc ∧ X.Fs.fs fl.fn = true ∧ (∃ ops i rest k, (L.head?).map (·.todo) = some (.inRegion ops (i :: rest) :: k)) ∧ ST X B kl kc csl csc L L') := by
  cases h with
  | last h => exact .inl ⟨h, rfl, rfl⟩
  | cons h h1 h2 h3 => exact .inr ⟨h, h1, h2, h3⟩
/-- The result of an operation, laid into the frame. -/
theorem out_op (hz : ZeroOk X.P) (hF : Fix X) (hO : FnsOk X) (hG : X.P.globals.size ≤ wl.heap.size) {k1 k2 tl tc : List Item} {ops : Array Oper} {i : Nat} {rest : List Nat} {its : List Item} {o : Oper}
    (hST : ST X wl.heap.size kl kc csl csc (fl :: cl) (fc :: cc)) (hw : WR X wl v) (hfr : FR X wl.heap.size k1 k2 fl fc) (hrun : fl.mode = .run) (hrunc : fc.mode = .run)
    (t1 : fl.todo = (.inRegion ops (i :: rest) :: its) ++ tl) (t2 : fc.todo = (.inRegion ops (i :: rest) :: its) ++ tc) (hits : ∀ it ∈ its, itemOk X.P X.Fs it = true) (hops : opsOk X.P X.Fs ops (i :: rest) = true) (ho : ops[i]? = some o)
    (hwl : Region.wanted o (yielded ops fl.tmps) = true)
    (hfin : ∀ {B' : Nat} {u u' : Value}, wl.heap.size ≤ B' → RV X B' u u' → ST X B' kl kc csl csc (fl.finish u :: cl) (fc.finish u' :: cc))
    (ht : ∀ i q, v.drawn + i < (opW X.P fc v).drawn → wl.tape (wl.drawn + i) q = v.tape (v.drawn + i) q) (hs : ∀ i, v.heap.size + i < (opW X.P fc v).heap.size → X.ρ.f (wl.heap.size + i) = v.heap.size + i) :
    Out X main kl kc csl csc fl fc cl cc wl v := by
  have hwc : Region.wanted o (yielded ops fc.tmps) = true := by rw [show yielded ops fc.tmps = yielded ops fl.tmps from funext (yielded_same hfr.tmps ops)]; exact hwl
  have hoo : opOk X.P X.Fs o = true := (opsOk_cons hops).2 o ho
  have hE := hfr.eval hF hG
  have hsr := sr_execOp (X := X) hz hF hO.bodied hE hoo
  have hop : opW X.P fc v = resW ((execOp fc.eval o).runT X.P v #[]).1 := by
    unfold opW
    simp only [hrunc, t2, List.cons_append, ho, hwc, if_true]
  rw [hop] at ht hs
  obtain ⟨r1, r2⟩ := hsr.run X wl v #[] #[] rfl hw (by simp) ht hs
  have sl := sg_oper (P := X.P) (main := true) (cs := cl) (w := wl) hrun t1 hfr.rol ho hwl
  have sc := sg_oper (P := X.P) (main := main) (cs := cc) (w := v) hrunc t2 hfr.roc ho hwc
  have hm := runT_mono X.P (execOp fl.eval o) wl #[]
  generalize hrl : (execOp fl.eval o).runT X.P wl #[] = rl at r1 r2 hm
  generalize hrc : (execOp fc.eval o).runT X.P v #[] = rc at r1 r2 hop
  obtain ⟨rl, el⟩ := rl
  obtain ⟨rc, ec⟩ := rc
  simp only at r1 r2 hm hop
  have ev : ∀ {a : Next} {w1 : World}, rl = .ok a w1 → ec = el.map (renE X) ∧ ∀ e ∈ seen X.P fl.fn el, evOk X w1.heap.size e := by
    intro a w1 e
    rcases r2 with ⟨hh, ww, h1, _⟩ | h1
    · rw [h1] at e; cases e
    · refine ⟨h1.1, fun x hx => ?_⟩
      rcases h1.2 x (seen_sub hx) with h2 | h2
      · simp at h2
      · rw [e] at h2; exact h2
  cases r1 with
  | dead hd =>
    rcases apply_dead (fr := fl) (cs := cl) hrl hd with ⟨o1, w1, es1, h1⟩ | ⟨ch, w1, es1, h1⟩
    · exact .dead ⟨o1, w1, es1, sl.trans h1⟩
    · exact .pan ⟨ch, w1, es1, sl.trans h1⟩
  | ok hN hw' hstep =>
    obtain ⟨e1, e2⟩ := ev rfl
    subst e1
    have hse : seen X.P fc.fn (el.map (renE X)) = (seen X.P fl.fn el).map (renE X) := by rw [hfr.fn]; exact seen_ren _ _ _
    have hsz := hm.size
    simp only [resW] at hsz hop
    cases hN with
    | value hv =>
      refine .ok (sl.trans (apply_value hrl hfr.kindl)) ((sc.trans (apply_value hrc hfr.kindc)).trans (by rw [hse])) (hfin hsz hv) hw' hstep hm hop.symm e2
    | skip =>
      refine .ok (sl.trans (apply_skip hrl hfr.kindl)) ((sc.trans (apply_skip hrc hfr.kindc)).trans (by rw [hse])) (hfin hsz ⟨(ren_undef _).symm, okJ_undef _ _⟩) hw' hstep hm hop.symm e2
    | enter hf ha =>
      refine .ok (sl.trans (apply_enter hrl hfr.kindl t1)) ((sc.trans (apply_enter hrc hfr.kindc t2)).trans (by rw [hse])) (.cons (FR.enter hO hf ha) hf ⟨ops, i, rest, its ++ tl, by simp [t1]⟩ (hST.mono hsz)) hw' hstep hm hop.symm e2
end
end Go.Proofs.Ytmmolicodlmlkaa.Rel
namespace Go.Proofs.Ytmmolicodlmlkaa.Rel
open Go.Conc (G)
set_option linter.unusedVariables false
variable {X : Cx} {B : Nat}
section
variable {main : Bool} {kl kc : List Item} {csl csc : List Frame} {fl fc : Frame} {cl cc : List Frame} {wl v : World}
/-- The items behind: none, or one that refuses. -/
def Tail (kl kc : List Item) : Prop := (kl = [] ∧ kc = []) ∨ kl = [.code (.refuse "")]
/-- The moves that leave the world. -/
theorem out_move (hw : WR X wl v) (hop : opW X.P fc v = v) {gl gc : Frame} (sl : stepG X.P true (G fl cl) wl = .go (G gl cl) wl #[]) (sc : stepG X.P main (G fc cc) v = .go (G gc cc) v #[]) (hST : ST X wl.heap.size kl kc csl csc (gl :: cl) (gc :: cc)) :
    Out X main kl kc csl csc fl fc cl cc wl v := .ok sl (by rw [mapE0]; exact sc) hST hw (Step.refl X _ _) (Mono.refl _) hop.symm (by simp)
theorem FR.to {kl kc : List Item} {fl fc : Frame} (h : FR X B kl kc fl fc) {its tl tc : List Item} (hT : TL X.P X.Fs kl kc tl tc) (hi : ∀ it ∈ its, itemOk X.P X.Fs it = true) : FR X B kl kc { fl with todo := its ++ tl } { fc with todo := its ++ tc } :=
  ⟨h.fn, h.tmps, ⟨its, tl, tc, rfl, rfl, hi, hT⟩, h.defl, h.defc, h.mode, h.kindl, h.kindc, h.rol, h.roc⟩
theorem FR.back {kl kc : List Item} {fl fc : Frame} (h : FR X B kl kc fl fc) : FR X B kl kc { fl with mode := .returning } { fc with mode := .returning } :=
  ⟨h.fn, h.tmps, h.todo, h.defl, h.defc, .inr ⟨rfl, rfl⟩, h.kindl, h.kindc, h.rol, h.roc⟩
theorem TL.far {P : Program} {Fs : Fns} {kl kc tl tc : List Item} (hk : Tail kl kc) (h : TL P Fs kl kc tl tc) (n : Nat) : exitTo n tl = none ∧ gotoIn n tl = none := by
  have key : ∀ {x : Code} {l : List Item}, exitTo n (.code x :: l) = exitTo n l ∧ gotoIn n (.code x :: l) = gotoIn n l := ⟨rfl, rfl⟩
  induction h with
  | here => rcases hk with ⟨rfl, _⟩ | rfl <;> exact ⟨rfl, rfl⟩
  | seq _ _ ih => exact ih
/-- A frame that runs. -/
theorem out_run (hz : ZeroOk X.P) (hF : Fix X) (hO : FnsOk X) (hG : X.P.globals.size ≤ wl.heap.size) {k1 k2 : List Item} (hk : Tail k1 k2)
    (hST : ST X wl.heap.size kl kc csl csc (fl :: cl) (fc :: cc)) (hw : WR X wl v) (hfr : FR X wl.heap.size k1 k2 fl fc) (hrun : fl.mode = .run) (hrunc : fc.mode = .run)
    (hput : ∀ {B' : Nat} {gl gc : Frame}, wl.heap.size ≤ B' → gl.fn = fl.fn → FR X B' k1 k2 gl gc → ST X B' kl kc csl csc (gl :: cl) (gc :: cc))
    (ht : ∀ i q, v.drawn + i < (opW X.P fc v).drawn → wl.tape (wl.drawn + i) q = v.tape (v.drawn + i) q) (hs : ∀ i, v.heap.size + i < (opW X.P fc v).heap.size → X.ρ.f (wl.heap.size + i) = v.heap.size + i) :
    Out X main kl kc csl csc fl fc cl cc wl v := by
  obtain ⟨its, tl, tc, t1, t2, hits, hT⟩ := hfr.todo
  have dead : ∀ {o : Outcome}, stepG X.P true (G fl cl) wl = .ended o wl #[] → Out X main kl kc csl csc fl fc cl cc wl v := fun h => .dead ⟨_, _, _, h⟩
  have put := fun {gl gc : Frame} (h : FR X wl.heap.size k1 k2 gl gc) (e : gl.fn = fl.fn) => hput (Nat.le_refl _) e h
  have hmk : ∀ {md : FrameMode}, ({ fl with mode := md } : Frame).fn = fl.fn := rfl
  cases its with
  | nil =>
    cases hT with
    | seq ha hT =>
      refine out_move hw ?_ (sg_ctl (k' := [.code _] ++ (.code _ :: _)) hrun t1 rfl) (sg_ctl (k' := [.code _] ++ (.code _ :: _)) hrunc t2 rfl) (put (hfr.to hT fun it hit => by simp at hit; rw [hit]; exact ha) rfl)
      unfold opW; simp only [hrunc, t2, List.nil_append]
    | here =>
    rcases hk with ⟨rfl, rfl⟩ | rfl
    · refine out_move hw ?_ (sg_nil hrun t1 hfr.rol) (sg_nil hrunc t2 hfr.roc) (put hfr.back rfl)
      unfold opW; simp only [hrunc, t2, List.append_nil]
    · obtain ⟨o, h⟩ := sg_refuse (P := X.P) (main := true) (cs := cl) (w := wl) hrun t1
      exact dead h
  | cons it its =>
    have hit : itemOk X.P X.Fs it = true := hits it List.mem_cons_self
    have hits' : ∀ x ∈ its, itemOk X.P X.Fs x = true := fun x hx => hits x (List.mem_cons_of_mem _ hx)
    rw [List.cons_append] at t1 t2
    cases hc : ctl it its with
    | some k' =>
      refine out_move hw ?_ (sg_ctl hrun t1 (ctl_app hc)) (sg_ctl hrunc t2 (ctl_app hc)) (put (hfr.to hT (ctl_ok hc hit hits')) rfl)
      unfold opW; simp only [hrunc, t2]
      unfold ctl at hc
      split at hc <;> first
        | rfl
        | cases hc
    | none =>
      cases it with
      | code c =>
        cases c with
        | skip => cases hc
        | label l => cases hc
        | seq a b => cases hc
        | block id a => cases hc
        | loop a => cases hc
        | scope a => cases hc
        | rangeFunc f ps a b => cases hit
        | refuse y =>
          obtain ⟨o, h⟩ := sg_refuse (P := X.P) (main := true) (cs := cl) (w := wl) hrun t1
          exact dead h
        | ret =>
          refine out_move hw ?_ (sg_ret hrun t1 hfr.rol) (sg_ret hrunc t2 hfr.roc) (put hfr.back rfl)
          unfold opW; simp only [hrunc, t2]
        | cond c x y =>
          simp only [itemOk, codeOk, Bool.and_eq_true] at hit
          have hev := hfr.eval hF hG c hit.1.1
          by_cases hb : ∃ b, fl.eval c = .bool b
          · obtain ⟨b, hb⟩ := hb
            have hb2 : fc.eval c = .bool b := by rw [hev.1, hb, ren_bool]
            have hok : ∀ z ∈ (.code (if b then x else y) :: its : List Item), itemOk X.P X.Fs z = true := by
              intro z hz
              rcases List.mem_cons.1 hz with e | e
              · rw [e]; cases b
                · exact hit.2
                · exact hit.1.2
              · exact hits' z e
            refine out_move hw ?_ (sg_cond hrun t1 hb) (sg_cond hrunc t2 hb2) (put (hfr.to hT hok) rfl)
            unfold opW; simp only [hrunc, t2]
          · obtain ⟨o, h⟩ := sg_cond_no (P := X.P) (main := true) (cs := cl) (w := wl) hrun t1 (fun b e => hb ⟨b, e⟩)
            exact dead h
        | exit id =>
          have e1 := exitTo_app id its tl
          have e2 := exitTo_app id its tc
          cases he : exitTo id its with
          | some r =>
            rw [he] at e1 e2
            refine out_move hw ?_ (sg_exit hrun t1 e1) (sg_exit hrunc t2 e2) (put (hfr.to hT (exitTo_ok id its r he hits')) rfl)
            unfold opW; simp only [hrunc, t2]
          | none =>
            rw [he] at e1
            have : exitTo id tl = none := (hT.far hk id).1
            rw [this] at e1
            obtain ⟨o, h⟩ := sg_exit_no (P := X.P) (main := true) (cs := cl) (w := wl) hrun t1 hfr.rol e1
            exact dead h
        | goto l =>
          have e1 := gotoIn_app l its tl
          have e2 := gotoIn_app l its tc
          cases he : gotoIn l its with
          | some r =>
            rw [he] at e1 e2
            refine out_move hw ?_ (sg_goto hrun t1 e1) (sg_goto hrunc t2 e2) (put (hfr.to hT (gotoIn_ok l its r he hits')) rfl)
            unfold opW; simp only [hrunc, t2]
          | none =>
            rw [he] at e1
            have : gotoIn l tl = none := (hT.far hk l).2
            rw [this] at e1
            obtain ⟨o, h⟩ := sg_goto_no (P := X.P) (main := true) (cs := cl) (w := wl) hrun t1 hfr.rol e1
            exact dead h
        | region id ops draw =>
          cases draw with
          | false => cases hc
          | true =>
            have hop : opW X.P fc v = { v with drawn := v.drawn + 1 } := by unfold opW; simp only [hrunc, t2]
            rw [hop] at ht
            have h0 := ht 0 (.order fl.fn id) (by simp only; omega)
            rw [Nat.add_zero, Nat.add_zero] at h0
            have hok : ∀ l, ∀ z ∈ (.inRegion ops l :: its : List Item), itemOk X.P X.Fs z = true := by
              intro l z hz
              rcases List.mem_cons.1 hz with e | e
              · rw [e]; exact opsOk_all hit _
              · exact hits' z e
            refine .ok (wl' := { wl with drawn := wl.drawn + 1 }) (v' := { v with drawn := v.drawn + 1 }) (sg_draw hrun t1) (by rw [mapE0]; exact sg_draw hrunc t2) ?_ ⟨hw.blk, hw.off, hw.fresh, hw.nam⟩ ⟨by simp only; omega, Nat.add_comm _ _, rfl, rfl, rfl, rfl, rfl, rfl, fun _ _ _ => rfl⟩ ⟨Nat.le_succ _, Nat.le_refl _, rfl⟩ hop.symm (by simp)
            have e : v.tape v.drawn (.order fc.fn id) = wl.tape wl.drawn (.order fl.fn id) := by rw [hfr.fn, ← h0]
            rw [e]
            exact put (hfr.to hT (hok (Region.schedule (X.P.follows .mixedOrders) ops (wl.tape wl.drawn (.order fl.fn id))))) rfl
      | inBlock id => cases hc
      | inLoop a => cases hc
      | inScope a => cases hc
      | inRangeFunc l => cases hit
      | endRangeFunc l => cases hit
      | beginRound => cases hit
      | call d a b c => cases hit
      | inRegion ops l =>
        cases l with
        | nil => cases hc
        | cons i rest =>
          by_cases hwd : ((ops[i]?).map (Region.wanted · (yielded ops fl.tmps))).getD false = true
          · cases ho : ops[i]? with
            | none => rw [ho] at hwd; cases hwd
            | some o =>
              rw [ho] at hwd
              simp only [Option.map_some, Option.getD_some] at hwd
              exact out_op hz hF hO hG hST hw hfr hrun hrunc t1 t2 hits' hit ho hwd (fun hB hu => hput hB (by unfold Frame.finish; rw [t1]) (FR.finish (hfr.mono hB) hT hu t1 t2 hits' hit)) ht hs
          · have h1 : ((ops[i]?).map (Region.wanted · (yielded ops fl.tmps))).getD false = false := by simpa using hwd
            have h2 : ((ops[i]?).map (Region.wanted · (yielded ops fc.tmps))).getD false = false := by
              rw [show yielded ops fc.tmps = yielded ops fl.tmps from funext (yielded_same hfr.tmps ops)]; exact h1
            refine out_move hw ?_ (sg_skipop hrun t1 h1) (sg_skipop hrunc t2 h2) (hput (Nat.le_refl _) (by unfold Frame.finish; rw [t1]) (FR.finish hfr hT ⟨(ren_undef _).symm, okJ_undef _ _⟩ t1 t2 hits' hit))
            unfold opW; simp only [hrunc, t2]
            cases ho : ops[i]? with
            | none => rfl
            | some o =>
              rw [ho] at h2
              simp only [Option.map_some, Option.getD_some] at h2
              simp only [h2, Bool.false_eq_true, if_false]
      | _ => cases hit
/-- ████ ONE STEP. ████ -/
theorem out (hz : ZeroOk X.P) (hF : Fix X) (hO : FnsOk X) (hG : X.P.globals.size ≤ wl.heap.size) (hk : Tail kl kc)
    (hST : ST X wl.heap.size kl kc csl csc (fl :: cl) (fc :: cc)) (hw : WR X wl v) (hnl : fl.mode = .returning → cl ≠ csl ∨ cc ≠ csc)
    (ht : ∀ i q, v.drawn + i < (opW X.P fc v).drawn → wl.tape (wl.drawn + i) q = v.tape (v.drawn + i) q) (hs : ∀ i, v.heap.size + i < (opW X.P fc v).heap.size → X.ρ.f (wl.heap.size + i) = v.heap.size + i) :
    Out X main kl kc csl csc fl fc cl cc wl v := by
  rcases hST.fr with ⟨hfr, rfl, rfl⟩ | ⟨hfr, hfs, htop, hST'⟩
  · rcases hfr.mode with ⟨hrun, hrunc⟩ | ⟨hrun, hrunc⟩
    · exact out_run hz hF hO hG hk hST hw hfr hrun hrunc (fun _ _ h => .last h) ht hs
    · rcases hnl hrun with h | h <;> exact absurd rfl h
  · rcases hfr.mode with ⟨hrun, hrunc⟩ | ⟨hrun, hrunc⟩
    · exact out_run hz hF hO hG (.inl ⟨rfl, rfl⟩) hST hw hfr hrun hrunc (fun hB hf h => .cons h (by rw [hf]; exact hfs) htop (hST'.mono hB)) ht hs
    · -- the return
      obtain ⟨fn, c, h1, _, _, _, h5⟩ := hO fl.fn hfs
      have h1c : X.P.funcs[fc.fn]? = some fn := by rw [hfr.fn]; exact h1
      obtain ⟨dl, ll, hcl⟩ : ∃ dl ll, cl = dl :: ll := by cases hST' <;> exact ⟨_, _, rfl⟩
      obtain ⟨dc, lc, hcc⟩ : ∃ dc lc, cc = dc :: lc := by cases hST' <;> exact ⟨_, _, rfl⟩
      subst hcl; subst hcc
      obtain ⟨ops, i, rest, k, htd⟩ := htop
      simp only [List.head?_cons, Option.map_some, Option.some.injEq] at htd
      have hsr := sr_results (X := X) hfr.tmps h5
      have hop : opW X.P fc v = resW ((results fn fc.tmps).runT X.P v #[]).1 := by
        unfold opW; simp only [hrunc, h1c]
      rw [hop] at ht hs
      obtain ⟨r1, r2⟩ := hsr.run X wl v #[] #[] rfl hw (by simp) ht hs
      have hm := runT_mono X.P (results fn fl.tmps) wl #[]
      generalize hrl : (results fn fl.tmps).runT X.P wl #[] = rl at r1 r2 hm
      generalize hrc : (results fn fc.tmps).runT X.P v #[] = rc at r1 r2 hop
      obtain ⟨rl, el⟩ := rl
      obtain ⟨rc, ec⟩ := rc
      simp only at r1 r2 hm hop
      cases r1 with
      | dead hd =>
        obtain ⟨o1, w1, es1, hx⟩ := sg_leave_dead (main := true) (c := dl) (cs := ll) hrun hfr.defl h1 hrl
        exact .dead ⟨o1, w1, es1, hx⟩
      | @ok a b wl' v' hN hw' hstep =>
        have e1 : ec = el.map (renE X) ∧ ∀ e ∈ seen X.P fl.fn el, evOk X wl'.heap.size e := by
          rcases r2 with ⟨hh, ww, hx, _⟩ | hx
          · cases hx
          · refine ⟨hx.1, fun x hxx => ?_⟩
            rcases hx.2 x (seen_sub hxx) with h2 | h2
            · simp at h2
            · exact h2
        obtain ⟨e1, e2⟩ := e1
        subst e1
        have hse : seen X.P fc.fn (el.map (renE X)) = (seen X.P fl.fn el).map (renE X) := by rw [hfr.fn]; exact seen_ren _ _ _
        have hsz := hm.size
        simp only [resW] at hsz hop
        refine .ok (sg_leave hrun hfr.defl hfr.kindl h1 hrl) ((sg_leave hrunc hfr.defc hfr.kindc h1c hrc).trans (by rw [hse])) ?_ hw' hstep hm hop.symm e2
        have fin : ∀ {k1 k2 : List Item}, FR X wl.heap.size k1 k2 dl dc → Tail k1 k2 → FR X wl'.heap.size k1 k2 (dl.finish a) (dc.finish b) := by
          intro k1 k2 h hk
          obtain ⟨its, tl, tc, t1, t2, hits, hT⟩ := h.todo
          cases its with
          | nil =>
            rw [htd] at t1
            cases hT with
            | seq _ _ => cases t1
            | here => rcases hk with ⟨rfl, rfl⟩ | rfl <;> cases t1
          | cons it its =>
            rw [htd, List.cons_append] at t1
            injection t1 with q1 q2
            subst q1
            exact FR.finish (h.mono hsz) hT hN (by rw [htd, q2]; rfl) t2 (fun x hx => hits x (List.mem_cons_of_mem _ hx)) (hits _ List.mem_cons_self)
        rcases hST'.fr with ⟨hf, rfl, rfl⟩ | ⟨hf, hf2, hf3, hf4⟩
        · exact .last (fin hf hk)
        · exact .cons (fin hf (.inl ⟨rfl, rfl⟩)) (by unfold Frame.finish; rw [htd]; exact hf2) hf3 (hf4.mono hsz)
end
end Go.Proofs.Ytmmolicodlmlkaa.Rel
namespace Go.Proofs.Ytmmolicodlmlkaa.Rel
open Go.Conc (G)
set_option linter.unusedVariables false

theorem ren_agree {ρ : Rn} {Fs : Fns} {B : Nat} (h : ∀ b, b < B → ρ.f b = b) : ∀ (v : Value), okV Fs B v = true → ren ρ v = v
  | .func (.func f) a b, ho => by
    rw [okV_func, Bool.and_eq_true, Bool.and_eq_true, Array.all_eq_true', Array.all_eq_true'] at ho
    rw [ren_func]
    congr 1
    · apply Array.ext (by simp)
      intro i h1 h2
      rw [Array.getElem_map]
      exact ren_agree h _ (ho.1.2 _ (Array.getElem_mem h2))
    · apply Array.ext (by simp)
      intro i h1 h2
      rw [Array.getElem_map]
      exact ren_agree h _ (ho.2 _ (Array.getElem_mem h2))
  | .func (.method _) _ _, ho | .func (.methodOf _ _) _ _, ho | .func (.via _ _ _ _) _ _, ho | .func (.yield _) _ _, ho => by rw [okV] at ho <;> first | cases ho | simp
  | .iface t v, ho => by
    rw [okV_iface] at ho
    rw [ren_iface, ren_agree h v ho]
  | .agg cs, ho => by
    rw [okV_agg, Array.all_eq_true'] at ho
    rw [ren_agg]
    congr 1
    apply Array.ext (by simp)
    intro i h1 h2
    rw [Array.getElem_map]
    exact ren_agree h _ (ho _ (Array.getElem_mem h2))
  | .tuple cs, ho => by
    rw [okV_tuple, Array.all_eq_true'] at ho
    rw [ren_tuple]
    congr 1
    apply Array.ext (by simp)
    intro i h1 h2
    rw [Array.getElem_map]
    exact ren_agree h _ (ho _ (Array.getElem_mem h2))
  | .pointer (some a), ho => by
    rw [okV_pointer] at ho
    rw [ren_pointer]
    simp only [Option.map_some, renA, h _ (inB_lt ho)]
  | .slice (some a) n c, ho => by
    rw [okV_sliceZ] at ho
    obtain ⟨h1, h2⟩ := inZ_none ho
    rw [ren_slice]
    simp only [Option.map_some, renS_none ρ h1, renA, h _ (inB_lt h2)]
  | .map (some r), ho => by
    rw [okV] at ho
    rw [ren_map]
    simp only [Option.map_some, h _ (inB_lt ho)]
  | .chan (some r), ho => by
    rw [okV] at ho
    rw [ren_chan]
    simp only [Option.map_some, h _ (inB_lt ho)]
  | .pointer none, _ | .slice none _ _, _ | .map none, _ | .chan none, _ | .bool _, _ | .int _ _, _ | .float _ _, _ | .string _, _ | .nilFunc, _ | .nilIface, _ => by rw [ren] <;> rfl
  | .complex _ _ _, ho => by rw [okV] at ho; cases ho
termination_by v => SizeOf.sizeOf v

theorem ren_hide {ρ : Rn} {v : Value} (h : hidV v = true) : ren ρ (hideV v) = v := by
  unfold hideV
  split
  · rw [ren_slice, Option.map_some, renS_mark]
  · exact ren_junk ρ h
theorem absV_ren {ρ : Rn} {Fs : Fns} {B : Nat} (h : ∀ b, b < B → ρ.f b = b) : ∀ (v : Value), ren ρ (absV Fs B v) = v
  | .agg cs => by
    rw [absV, attach_map_absV, ren_agg]
    congr 1
    apply Array.ext (by simp)
    intro i h1 h2
    rw [Array.getElem_map, Array.getElem_map]
    exact absV_ren h cs[i]
  | .tuple cs => by
    rw [absV, attach_map_absV, ren_tuple]
    congr 1
    apply Array.ext (by simp)
    intro i h1 h2
    rw [Array.getElem_map, Array.getElem_map]
    exact absV_ren h cs[i]
  | .bool _ | .int _ _ | .float _ _ | .complex _ _ _ | .string _ | .pointer _ | .slice _ _ _ | .map _ | .chan _ | .func _ _ _ | .nilFunc | .iface _ _ | .nilIface => by
    rw [absV_leaf (by intro _ h; cases h) (by intro _ h; cases h)]
    split
    · exact ren_agree h _ ‹_›
    · exact ren_hide (hid_of (by intro _ h; cases h) (by intro _ h; cases h) ‹_›)
termination_by v => SizeOf.sizeOf v

/-! ### intervals that follow one upon the other are laid at given places -/
section
variable (b0 : Nat) (m : Nat → Nat)
def bs : Nat → Nat
  | 0 => b0
  | N + 1 => bs N + m N
theorem bs_le {N N' : Nat} (h : N ≤ N') : bs b0 m N ≤ bs b0 m N' := by
  induction h with
  | refl => exact Nat.le_refl _
  | step _ ih => exact Nat.le_trans ih (Nat.le_add_right _ _)
/-- The interval in which x lies. -/
theorem bs_find {x : Nat} (h0 : b0 ≤ x) (h : ∃ N, x < bs b0 m (N + 1)) : ∃ N, bs b0 m N ≤ x ∧ x < bs b0 m (N + 1) := by
  obtain ⟨N, h⟩ := h
  induction N with
  | zero => exact ⟨0, h0, h⟩
  | succ N ih =>
    rcases Nat.lt_or_ge x (bs b0 m (N + 1)) with h1 | h1
    · exact ih h1
    · exact ⟨N + 1, h1, h⟩
theorem bs_one {x N N' : Nat} (h1 : bs b0 m N ≤ x) (h2 : x < bs b0 m (N + 1)) (h3 : bs b0 m N' ≤ x) (h4 : x < bs b0 m (N' + 1)) : N = N' := by
  rcases Nat.lt_trichotomy N N' with h | h | h
  · have := bs_le b0 m (show N + 1 ≤ N' from h); omega
  · exact h
  · have := bs_le b0 m (show N' + 1 ≤ N from h); omega
open Classical in
noncomputable def lay (H : Nat → Nat) (x : Nat) : Nat := if h : ∃ N, bs b0 m N ≤ x ∧ x < bs b0 m (N + 1) then H (Classical.choose h) + (x - bs b0 m (Classical.choose h)) else 0
theorem lay_at (H : Nat → Nat) {N i : Nat} (hi : i < m N) : lay b0 m H (bs b0 m N + i) = H N + i := by
  have h : ∃ N', bs b0 m N' ≤ bs b0 m N + i ∧ bs b0 m N + i < bs b0 m (N' + 1) := ⟨N, Nat.le_add_right _ _, by show _ < bs b0 m N + m N; omega⟩
  unfold lay
  rw [dif_pos h]
  have hs := Classical.choose_spec h
  have : Classical.choose h = N := bs_one b0 m hs.1 hs.2 (Nat.le_add_right _ _) (by show _ < bs b0 m N + m N; omega)
  rw [this]; omega
/-- ████ A renaming that leaves what is old, and lays the N-th interval at H N. ████ -/
theorem exists_rn (H : Nat → Nat) (hH : ∀ N, H N + m N ≤ H (N + 1)) (h0 : b0 ≤ H 0) : ∃ ρ : Rn, (∀ x, x < b0 → ρ.f x = x) ∧ (∀ x, b0 ≤ x → b0 ≤ ρ.f x) ∧ ∀ N i, i < m N → ρ.f (bs b0 m N + i) = H N + i := by
  classical
  have hle : ∀ {N N' : Nat}, N ≤ N' → H N ≤ H N' := by
    intro N N' h
    induction h with
    | refl => exact Nat.le_refl _
    | step _ ih => exact Nat.le_trans ih (Nat.le_trans (Nat.le_add_right _ _) (hH _))
  let inI := fun x => b0 ≤ x ∧ ∃ N, x < bs b0 m (N + 1)
  have val : ∀ {x}, inI x → ∃ N, bs b0 m N ≤ x ∧ x < bs b0 m (N + 1) ∧ lay b0 m H x = H N + (x - bs b0 m N) := by
    rintro x ⟨h1, h2⟩
    obtain ⟨N, h3, h4⟩ := bs_find b0 m h1 h2
    refine ⟨N, h3, h4, ?_⟩
    have := lay_at b0 m H (N := N) (i := x - bs b0 m N) (by have : x < bs b0 m N + m N := h4; omega)
    rwa [show bs b0 m N + (x - bs b0 m N) = x by omega] at this
  have hbound : ∀ n : Nat, ∃ K, ∀ x, x < n → lay b0 m H x < K := by
    intro n
    induction n with
    | zero => exact ⟨0, fun x h => by omega⟩
    | succ n ih =>
      obtain ⟨K, hK⟩ := ih
      refine ⟨K + lay b0 m H n + 1, fun x h => ?_⟩
      rcases Nat.lt_or_ge x n with h1 | h1
      · have := hK x h1; omega
      · have : x = n := by omega
        rw [this]; omega
  let K := if h : ∃ K, ∀ x, inI x → lay b0 m H x < K then Classical.choose h else 0
  have hK : ∀ y, b0 ≤ y → ¬ inI y → ∀ x, inI x → lay b0 m H x < K := by
    intro y hy hny x hx
    have h : ∃ K, ∀ x, inI x → lay b0 m H x < K := by
      obtain ⟨K, hK⟩ := hbound y
      refine ⟨K, fun x hx => hK x ?_⟩
      rcases Nat.lt_or_ge x y with h1 | h1
      · exact h1
      · obtain ⟨_, N, h2⟩ := hx
        exact absurd ⟨hy, N, by omega⟩ hny
    show lay b0 m H x < (if h : ∃ K, ∀ x, inI x → lay b0 m H x < K then Classical.choose h else 0)
    rw [dif_pos h]
    exact Classical.choose_spec h x hx
  let f := fun x => if x < b0 then x else if inI x then lay b0 m H x else K + b0 + x
  have hf1 : ∀ {x}, x < b0 → f x = x := fun {x} h => by show (if x < b0 then x else _) = x; rw [if_pos h]
  have hf2 : ∀ {x}, inI x → f x = lay b0 m H x := fun {x} h => by
    show (if x < b0 then x else if inI x then lay b0 m H x else _) = _
    rw [if_neg (by have := h.1; omega), if_pos h]
  have hf3 : ∀ {x}, b0 ≤ x → ¬ inI x → f x = K + b0 + x := fun {x} h1 h2 => by
    show (if x < b0 then x else if inI x then lay b0 m H x else _) = _
    rw [if_neg (by omega), if_neg h2]
  have hlow : ∀ {x}, inI x → b0 ≤ lay b0 m H x := by
    intro x hx
    obtain ⟨N, h1, h2, h3⟩ := val hx
    have := hle (Nat.zero_le N)
    omega
  have hbig : ∀ x, b0 ≤ x → b0 ≤ f x := by
    intro x hx
    by_cases h : inI x
    · rw [hf2 h]; exact hlow h
    · rw [hf3 hx h]; omega
  have hinjI : ∀ x y, inI x → inI y → x < y → lay b0 m H x < lay b0 m H y := by
    intro x y hx hy hxy
    obtain ⟨N, h1, h2, h3⟩ := val hx
    obtain ⟨N', h4, h5, h6⟩ := val hy
    have hN : N ≤ N' := by
      rcases Nat.lt_or_ge N' N with h | h
      · have := bs_le b0 m (show N' + 1 ≤ N from h); omega
      · exact h
    rcases Nat.lt_or_ge N N' with h | h
    · have e1 := hle (show N + 1 ≤ N' from h)
      have e2 := hH N
      have e3 : x < bs b0 m N + m N := h2
      omega
    · obtain rfl : N = N' := by omega
      omega
  refine ⟨⟨f, fun x y e => ?_⟩, fun x hx => hf1 hx, hbig, fun N i hi => ?_⟩
  · rcases Nat.lt_or_ge x b0 with hx | hx <;> rcases Nat.lt_or_ge y b0 with hy | hy
    · rw [hf1 hx, hf1 hy] at e; exact e
    · have := hbig y hy; rw [hf1 hx] at e; omega
    · have := hbig x hx; rw [hf1 hy] at e; omega
    · by_cases ix : inI x <;> by_cases iy : inI y
      · rw [hf2 ix, hf2 iy] at e
        rcases Nat.lt_trichotomy x y with h | h | h
        · have := hinjI x y ix iy h; omega
        · exact h
        · have := hinjI y x iy ix h; omega
      · have := hK y hy iy x ix
        rw [hf2 ix, hf3 hy iy] at e; omega
      · have := hK x hx ix y iy
        rw [hf3 hx ix, hf2 iy] at e; omega
      · rw [hf3 hx ix, hf3 hy iy] at e; omega
  · have hin : inI (bs b0 m N + i) := ⟨by have := bs_le b0 m (Nat.zero_le N); have e : bs b0 m 0 = b0 := rfl; omega, N, by show _ < bs b0 m N + m N; omega⟩
    show f _ = _
    rw [hf2 hin, lay_at b0 m H hi]
end
/-! ### panics lead to no return -/
/-- The lone stack's bottom: whoever comes back to it, by a return or a panic, is stuck. -/
def badF : Frame := { fn := 0, tmps := #[], todo := [.code (.refuse "")], defers := [{ target := .builtin .make #[] 0 #[], args := #[] }], mode := .run, kind := .normal }
inductive PS : List Frame → Prop
  | base : PS [badF]
  | cons {fr : Frame} {cs : List Frame} : fr.defers = [] → (∀ d a b c k, fr.todo ≠ .call d a b c :: k) → PS cs → PS (fr :: cs)
theorem step_pan {P : Program} {fr c : Frame} {cs : List Frame} {w : World} {ch : List PanicEntry} (hm : fr.mode = .panicking ch) (hd : fr.defers = []) (ht : ∀ d a b c k, fr.todo ≠ .call d a b c :: k) :
    step P (lone fr (c :: cs) w) = .next (lone (c.raise ch) cs w) := by
  have hcat : fr.catches P = false := by
    unfold Frame.catches
    split
    · exact absurd ‹_› (ht _ _ _ _ _)
    · rfl
  exact step_lone_go (by simp [stepG, unwind, hm, hd, hcat])
theorem step_bad_pan {P : Program} {w : World} {ch : List PanicEntry} : ∃ o w', step P (lone (badF.raise ch) [] w) = .ended o w' :=
  ⟨_, _, step_lone_ended (by simp [badF, Frame.raise, stepG, unwind, callDeferred, invoke, builtin, stuck, Sem.run, GStep.bare, GStep.after]; exact ⟨rfl, rfl⟩)⟩
theorem step_bad_run {P : Program} {w : World} {u : Value} : ∃ o w', step P (lone (badF.finish u) [] w) = .ended o w' :=
  ⟨_, _, step_lone_ended (by simp [badF, Frame.finish, stepG, stepG.exec, GStep.bare]; exact ⟨rfl, rfl⟩)⟩
theorem raise_mode (fr : Frame) (ch : List PanicEntry) : (∃ c, (fr.raise ch).mode = .panicking c) ∧ (fr.raise ch).defers = fr.defers ∧ (fr.raise ch).todo = fr.todo := by
  unfold Frame.raise
  split <;> exact ⟨⟨_, rfl⟩, rfl, rfl⟩
theorem panic_stays {P : Program} : ∀ (n : Nat) (fr : Frame) (cs : List Frame) (w : World) (ch : List PanicEntry) (m' : Machine), fr.mode = .panicking ch → fr.defers = [] → (∀ d a b c k, fr.todo ≠ .call d a b c :: k) → PS cs →
    runN P n (lone fr cs w) = .next m' → ∃ fr' cs' ch', m' = lone fr' cs' w ∧ fr'.mode = .panicking ch'
  | 0, fr, cs, w, ch, m', hm, _, _, _, h => by
    injection h with h
    exact ⟨fr, cs, ch, h.symm, hm⟩
  | n + 1, fr, cs, w, ch, m', hm, hd, ht, hp, h => by
    cases hp with
    | base =>
      rw [runN, step_pan hm hd ht] at h
      cases n with
      | zero =>
        injection h with h
        exact ⟨badF.raise ch, [], ch, h.symm, rfl⟩
      | succ n =>
        obtain ⟨o, w', hb⟩ := step_bad_pan (P := P) (w := w) (ch := ch)
        simp only [runN, hb] at h
        cases h
    | cons h1 h2 h3 =>
      rename_i fr2 cs2
      rw [runN, step_pan hm hd ht] at h
      obtain ⟨⟨c, r1⟩, r2, r3⟩ := raise_mode fr2 ch
      exact panic_stays n _ _ w c m' r1 (r2.trans h1) (by rw [r3]; exact h2) h3 h
end Go.Proofs.Ytmmolicodlmlkaa.Rel
namespace Go.Proofs.Ytmmolicodlmlkaa.Rel
open Go.Conc (G Goes)
set_option linter.unusedVariables false

inductive Tr where
  | leaf
  | node (f : World → Tr)
def Sub (t t' : Tr) : Prop := ∃ f w, t' = .node f ∧ t = f w
theorem sub_wf : WellFounded Sub := ⟨fun t => by
  induction t with
  | leaf => exact ⟨_, fun y ⟨f, w, h, _⟩ => by cases h⟩
  | node f ih => exact ⟨_, fun y ⟨g, w, h, e⟩ => by injection h with h; subst h; subst e; exact ih w⟩⟩
section
variable {σ : Type} (P : Program) (main : Bool) (R : σ → World → World → Prop) (D : σ → World → World → Array Event → σ → Prop) (Stop : σ → Goroutine → World → Prop)
def GoT : Tr → σ → Goroutine → World → Prop
  | .leaf, s, g, w => ∀ w₁, R s w w₁ → Stop s g w₁
  | .node f, s, g, w => ∀ w₁, R s w w₁ → Stop s g w₁ ∨ (g.status = .running ∧ ∃ g' w' es s', stepG P main g w₁ = .go g' w' es ∧ D s w₁ w' es s' ∧ GoT (f w₁) s' g' w')
end
section
variable {σ : Type} {P : Program} {main : Bool} {R : σ → World → World → Prop} {D : σ → World → World → Array Event → σ → Prop} {Stop Stop' : σ → Goroutine → World → Prop}
theorem GoT.rely (trans : ∀ s a b c, R s a b → R s b c → R s a c) {T : Tr} {s : σ} {g : Goroutine} {w w₁ : World} (h : GoT P main R D Stop T s g w) (hr : R s w w₁) : GoT P main R D Stop T s g w₁ := by
  cases T with
  | leaf => exact fun w₂ h₂ => h w₂ (trans _ _ _ _ hr h₂)
  | node f => exact fun w₂ h₂ => h w₂ (trans _ _ _ _ hr h₂)
theorem GoT.mono {R' : σ → World → World → Prop} {D' : σ → World → World → Array Event → σ → Prop} (hR : ∀ s a b, R' s a b → R s a b) (hD : ∀ s a b es s', D s a b es s' → D' s a b es s') (hS : ∀ s g w, Stop s g w → Stop' s g w) :
    ∀ {T : Tr} {s : σ} {g : Goroutine} {w : World}, GoT P main R D Stop T s g w → GoT P main R' D' Stop' T s g w
  | .leaf, s, g, w, h => fun w₁ h₁ => hS _ _ _ (h w₁ (hR _ _ _ h₁))
  | .node f, s, g, w, h => fun w₁ h₁ => by
    rcases h w₁ (hR _ _ _ h₁) with h | ⟨hs, g', w', es, s', h1, h2, h3⟩
    · exact .inl (hS _ _ _ h)
    · exact .inr ⟨hs, g', w', es, s', h1, hD _ _ _ _ _ h2, GoT.mono hR hD hS h3⟩
/-- It is on its way, bounded by some tree. -/
def Go1 (P : Program) (main : Bool) (R : σ → World → World → Prop) (D : σ → World → World → Array Event → σ → Prop) (Stop : σ → Goroutine → World → Prop) (s : σ) (g : Goroutine) (w : World) : Prop := ∃ T, GoT P main R D Stop T s g w
theorem Go1.stop {s : σ} {g : Goroutine} {w : World} (h : ∀ w₁, R s w w₁ → Stop s g w₁) : Go1 P main R D Stop s g w := ⟨.leaf, h⟩
theorem Go1.rely (trans : ∀ s a b c, R s a b → R s b c → R s a c) {s : σ} {g : Goroutine} {w w₁ : World} (h : Go1 P main R D Stop s g w) (hr : R s w w₁) : Go1 P main R D Stop s g w₁ := let ⟨T, h⟩ := h; ⟨T, h.rely trans hr⟩
open Classical in
/-- A step, or a stop, as the world has it. -/
theorem Go1.intro {s : σ} {g : Goroutine} {w : World} (h : ∀ w₁, R s w w₁ → Stop s g w₁ ∨ (g.status = .running ∧ ∃ g' w' es s', stepG P main g w₁ = .go g' w' es ∧ D s w₁ w' es s' ∧ Go1 P main R D Stop s' g' w')) : Go1 P main R D Stop s g w := by
  have key : ∀ w₁, ∃ T, R s w w₁ → Stop s g w₁ ∨ (g.status = .running ∧ ∃ g' w' es s', stepG P main g w₁ = .go g' w' es ∧ D s w₁ w' es s' ∧ GoT P main R D Stop T s' g' w') := by
    intro w₁
    by_cases hr : R s w w₁
    · rcases h w₁ hr with h1 | ⟨hs, g', w', es, s', h1, h2, T, h3⟩
      · exact ⟨.leaf, fun _ => .inl h1⟩
      · exact ⟨T, fun _ => .inr ⟨hs, g', w', es, s', h1, h2, h3⟩⟩
    · exact ⟨.leaf, fun h => absurd h hr⟩
  exact ⟨.node fun w₁ => Classical.choose (key w₁), fun w₁ h₁ => Classical.choose_spec (key w₁) h₁⟩
theorem Go1.step {s : σ} {g : Goroutine} {w : World} (hs : g.status = .running) (h : ∀ w₁, R s w w₁ → ∃ g' w' es s', stepG P main g w₁ = .go g' w' es ∧ D s w₁ w' es s' ∧ Go1 P main R D Stop s' g' w') : Go1 P main R D Stop s g w :=
  Go1.intro fun w₁ h₁ => .inr ⟨hs, h w₁ h₁⟩
theorem Go1.bind (refl : ∀ s a, R s a a) {Stop1 : σ → Goroutine → World → Prop} {s : σ} {g : Goroutine} {w : World} (h : Go1 P main R D Stop1 s g w) (k : ∀ s g w, Stop1 s g w → Go1 P main R D Stop s g w) : Go1 P main R D Stop s g w := by
  obtain ⟨T, h⟩ := h
  have stop : ∀ {s : σ} {g : Goroutine} {w₁ : World}, Stop1 s g w₁ → Stop s g w₁ ∨ (g.status = .running ∧ ∃ g' w' es s', stepG P main g w₁ = .go g' w' es ∧ D s w₁ w' es s' ∧ Go1 P main R D Stop s' g' w') := by
    intro s g w₁ hs
    obtain ⟨T', h'⟩ := k _ _ _ hs
    cases T' with
    | leaf => exact .inl (h' w₁ (refl _ _))
    | node f =>
      rcases h' w₁ (refl _ _) with h1 | ⟨hr, g', w', es, s', h1, h2, h3⟩
      · exact .inl h1
      · exact .inr ⟨hr, g', w', es, s', h1, h2, _, h3⟩
  induction T generalizing s g w with
  | leaf => exact Go1.intro fun w₁ h₁ => stop (h w₁ h₁)
  | node f ih =>
    refine Go1.intro fun w₁ h₁ => ?_
    rcases h w₁ h₁ with h1 | ⟨hr, g', w', es, s', h1, h2, h3⟩
    · exact stop h1
    · exact .inr ⟨hr, g', w', es, s', h1, h2, ih w₁ h3⟩
/-- Where the number of steps is known. -/
theorem Go1.of_goes {R₁ : World → World → Prop} {D₁ : World → World → Array Event → Prop} {Stop₁ : Goroutine → World → Prop} {s : σ} (hR : ∀ a b, R s a b → R₁ a b) (hD : ∀ a b es, D₁ a b es → D s a b es s) (hS : ∀ g w, Stop₁ g w → Stop s g w) :
    ∀ {n : Nat} {g : Goroutine} {w : World}, Goes P main R₁ D₁ Stop₁ n g w → Go1 P main R D Stop s g w
  | 0, g, w, h => .stop fun w₁ h₁ => hS _ _ (h w₁ (hR _ _ h₁))
  | n + 1, g, w, h => by
    rcases h with h | ⟨hs, h⟩
    · exact .stop fun w₁ h₁ => hS _ _ (h w₁ (hR _ _ h₁))
    · refine .step hs fun w₁ h₁ => ?_
      have h2 := h w₁ (hR _ _ h₁)
      cases hg : stepG P main g w₁ with
      | go g' w' es =>
        rw [hg] at h2
        exact ⟨g', w', es, s, rfl, hD _ _ _ h2.1, Go1.of_goes hR hD hS h2.2⟩
      | _ => rw [hg] at h2; exact h2.elim
/-- Whoever is on its way runs, unless it stands at its stop. -/
theorem GoT.running (refl : ∀ s a, R s a a) (hS : ∀ s g w, Stop s g w → g.status = .running) {T : Tr} {s : σ} {g : Goroutine} {w : World} (h : GoT P main R D Stop T s g w) : g.status = .running := by
  cases T with
  | leaf => exact hS _ _ _ (h w (refl _ _))
  | node f => exact (h w (refl _ _)).elim (hS _ _ _) (·.1)
end
end Go.Proofs.Ytmmolicodlmlkaa.Rel
namespace Go.Proofs.Ytmmolicodlmlkaa.Rel
open Go.Conc (G)
set_option linter.unusedVariables false

/-- What the others do: the blocks that this goroutine owns (S) or reads (Rd) stand. -/
structure RS (Rd S : Nat → Prop) (w w₁ : World) : Prop where
  tape : w₁.tape = w.tape
  os : w₁.os = w.os
  output : w₁.output = w.output
  size : w.heap.size ≤ w₁.heap.size
  own : ∀ b, S b → w₁.heap[b]? = w.heap[b]?
  rd : ∀ b, Rd b → w₁.heap[b]? = w.heap[b]?
theorem RS.refl {Rd S : Nat → Prop} (w : World) : RS Rd S w w := ⟨rfl, rfl, rfl, Nat.le_refl _, fun _ _ => rfl, fun _ _ => rfl⟩
theorem RS.trans {Rd S : Nat → Prop} {a b c : World} (h : RS Rd S a b) (k : RS Rd S b c) : RS Rd S a c :=
  ⟨k.tape.trans h.tape, k.os.trans h.os, k.output.trans h.output, Nat.le_trans h.size k.size, fun x hx => (k.own x hx).trans (h.own x hx), fun x hx => (k.rd x hx).trans (h.rd x hx)⟩
/-- As RS; blocks of Bd, which this goroutine names alone, stay rows of cells of their type. -/
structure RSB (Bd Rd S : Nat → Prop) (w w₁ : World) : Prop extends RS Rd S w w₁ where
  bd : ∀ b, Bd b → ∀ c e fr, w.heap[b]? = some (.cells c e fr) → ∃ c' fr', w₁.heap[b]? = some (.cells c' e fr')
theorem RSB.refl {Bd Rd S : Nat → Prop} (w : World) : RSB Bd Rd S w w := ⟨RS.refl w, fun _ _ c e fr h => ⟨c, fr, h⟩⟩
/-- What a step of its own may list. -/
def EvS (Rd S : Nat → Prop) (e : Event) : Prop :=
  (∃ a, e.loc = .cell a ∧ (S a.block ∨ (Rd a.block ∧ e.write = false)) ∧ e.sync = false) ∨ (∃ r, e.loc = .obj r ∧ (S r ∨ (Rd r ∧ e.write = false)) ∧ (e.write = true → e.sync = false)) ∨ e = ⟨.mark .noRoom, false, true⟩
/-- What a step of its own does: what it makes it owns; what it does not own stands. -/
structure DS (Rd S : Nat → Prop) (w w' : World) (es : Array Event) (S' : Nat → Prop) : Prop where
  tape : w'.tape = w.tape
  os : w'.os = w.os
  output : w'.output = w.output
  size : w.heap.size ≤ w'.heap.size
  own : ∀ b, S' b ↔ S b ∨ (w.heap.size ≤ b ∧ b < w'.heap.size)
  old : ∀ b, b < w.heap.size → ¬ S b → w'.heap[b]? = w.heap[b]?
  evs : ∀ e ∈ es, EvS Rd S' e
structure St where
  S : Nat → Prop
  g : Goroutine
  w : World

/-- An element that is not accessible begins an endless way down. -/
theorem endless {α : Type} {r : α → α → Prop} {x : α} (h : ¬ Acc r x) : ∃ p : Nat → α, p 0 = x ∧ ∀ n, r (p (n + 1)) (p n) := by
  have next : ∀ y : { y // ¬ Acc r y }, ∃ z : { y // ¬ Acc r y }, r z.1 y.1 := by
    rintro ⟨y, hy⟩
    apply Classical.byContradiction
    intro hn
    exact hy ⟨y, fun z hz => Classical.byContradiction fun hz' => hn ⟨⟨z, hz'⟩, hz⟩⟩
  let f := fun y => Classical.choose (next y)
  let q : Nat → { y // ¬ Acc r y } := fun n => Nat.rec ⟨x, h⟩ (fun _ y => f y) n
  exact ⟨fun n => (q n).1, rfl, fun n => Classical.choose_spec (next (q n))⟩
theorem runN_more {P : Program} : ∀ (N j : Nat) {m m1 : Machine}, runN P N m = .next m1 → runN P (N + j) m = runN P j m1
  | 0, j, m, m1, h => by injection h with h; rw [h, Nat.zero_add]
  | N + 1, j, m, m1, h => by
    rw [show N + 1 + j = (N + j) + 1 by omega]
    simp only [runN] at h ⊢
    cases hs : step P m with
    | next m2 => rw [hs] at h; exact runN_more N j h
    | ended o w => rw [hs] at h; cases h
theorem step_of_go {P : Program} {fr fr' : Frame} {cs cs' : List Frame} {w w' : World} {es : Array Event} (h : stepG P true (G fr cs) w = .go (G fr' cs') w' es) : step P (lone fr cs w) = .next (lone fr' cs' w') :=
  step_lone_go (by show (stepG P true (G fr cs) w).bare = _; rw [h]; rfl)
theorem step_of_ended {P : Program} {fr : Frame} {cs : List Frame} {w w' : World} {o : Outcome} {es : Array Event} (h : stepG P true (G fr cs) w = .ended o w' es) : step P (lone fr cs w) = .ended o w' :=
  step_lone_ended (by show (stepG P true (G fr cs) w).bare = _; rw [h]; rfl)
theorem opW_mono (P : Program) (fr : Frame) (v : World) : Mono v (opW P fr v) := by
  unfold opW
  split
  · split
    · exact runT_mono _ _ _ _
    · exact Mono.refl v
  · split
    · exact ⟨Nat.le_succ _, Nat.le_refl _, rfl⟩
    · split
      · split
        · exact runT_mono _ _ _ _
        · exact Mono.refl v
      · exact Mono.refl v
    · exact Mono.refl v
  · exact Mono.refl v
theorem item_call {P : Program} {Fs : Fns} {kl kc tl tc : List Item} (hk : kl = [] ∨ kl = [.code (.refuse "")]) (hT : TL P Fs kl kc tl tc) {its todo : List Item} (h : todo = its ++ tl) (hi : ∀ it ∈ its, itemOk P Fs it = true) : ∀ d a b c k, todo ≠ .call d a b c :: k := by
  intro d a b c k e
  rw [h] at e
  cases its with
  | nil =>
    cases hT with
    | seq _ _ => cases e
    | here => rcases hk with rfl | rfl <;> cases e
  | cons it its =>
    rw [List.cons_append] at e
    injection e with e1 e2
    have := hi it List.mem_cons_self
    rw [e1] at this
    cases this
theorem ST.ps {X : Cx} {B : Nat} {kl kc : List Item} {csc L L' : List Frame} (hk : kl = [] ∨ kl = [.code (.refuse "")]) (h : ST X B kl kc [badF] csc L L') : PS L := by
  induction h with
  | last h =>
    obtain ⟨its, tl, tc, t1, _, hi, hT⟩ := h.todo
    exact .cons h.defl (item_call hk hT t1 hi) .base
  | cons h hf ht hs ih =>
    obtain ⟨its, tl, tc, t1, _, hi, hT⟩ := h.todo
    exact .cons h.defl (item_call (.inl rfl) hT t1 hi) ih
theorem WR.rely {X : Cx} {wl v v' : World} (h : WR X wl v) (hv : ∀ c, c < wl.heap.size → X.Fs.al c = true → v'.heap[X.ρ.f c]? = v.heap[X.ρ.f c]?) : WR X wl v' :=
  ⟨fun b hb ha => let ⟨ol, oc, h1, h2, h3⟩ := h.blk b hb ha; ⟨ol, oc, h1, (hv b hb ha).trans h2, h3⟩, h.off, h.fresh, fun b hb => let ⟨k1, c, e, fr, k2, k3⟩ := h.nam b hb; ⟨k1, c, e, fr, k2, (hv b (Array.getElem?_eq_some_iff.1 k2).1 k1).trans k3⟩⟩
theorem WR.relyN {X : Cx} {wl v v' : World} (h : WR X wl v) (hv : ∀ c, c < wl.heap.size → X.Fs.al c = true → X.Fs.na c = false → v'.heap[X.ρ.f c]? = v.heap[X.ρ.f c]?)
    (hn : ∀ b, b < wl.heap.size → X.Fs.na b = true → ∀ c e fr, v.heap[X.ρ.f b]? = some (.cells c e fr) → ∃ c' fr', v'.heap[X.ρ.f b]? = some (.cells c' e fr')) : WR X wl v' := by
  refine ⟨fun b hb ha => ?_, h.off, h.fresh, fun b hb => ?_⟩
  · cases hna : X.Fs.na b with
    | false =>
      obtain ⟨ol, oc, h1, h2, h3⟩ := h.blk b hb ha
      exact ⟨ol, oc, h1, (hv b hb ha hna).trans h2, h3⟩
    | true =>
      obtain ⟨_, c, e, fr, k2, k3⟩ := h.nam b hna
      obtain ⟨c', fr', k4⟩ := hn b hb hna _ _ _ k3
      exact ⟨_, _, k2, k4, .bad⟩
  · obtain ⟨k1, c, e, fr, k2, k3⟩ := h.nam b hb
    obtain ⟨c', fr', k4⟩ := hn b (Array.getElem?_eq_some_iff.1 k2).1 hb _ _ _ k3
    exact ⟨k1, c', e, fr', k2, k4⟩
section
variable {P : Program} {Fs : Fns} {B0 : Nat} {kl kc : List Item} {csc : List Frame} {fl0 fc0 : Frame} {cl0 cc0 : List Frame} {wl0 v0 : World} {Bd Rd S0 : Nat → Prop} {StopL : Frame → List Frame → World → Prop} {main : Bool}
/-- The goroutine in company stands where the lone one stands at its stop. -/
structure AtC (P : Program) (Fs : Fns) (B0 : Nat) (kl kc : List Item) (csc : List Frame) (v0 : World) (Rd S0 : Nat → Prop) (ρ : Rn) (fl : Frame) (cl : List Frame) (wl : World) (S : Nat → Prop) (g : Goroutine) (w : World) : Prop where
  id : ∀ b, b < B0 → ρ.f b = b
  new : ∀ b, B0 ≤ b → B0 ≤ ρ.f b
  st : ∃ fc cc, g = G fc cc ∧ ST ⟨P, ρ, Fs⟩ wl.heap.size kl kc [badF] csc (fl :: cl) (fc :: cc)
  wr : WR ⟨P, ρ, Fs⟩ wl w
  low : B0 ≤ wl.heap.size
  cover : ∀ c, B0 ≤ c → c < wl.heap.size → S (ρ.f c)
  mine : ∀ b, S b ↔ S0 b ∨ (∃ c, B0 ≤ c ∧ c < wl.heap.size ∧ ρ.f c = b)
  tape : w.tape = v0.tape
  os : w.os = v0.os
  output : w.output = v0.output
  size : v0.heap.size ≤ w.heap.size
  rd : ∀ b, Rd b → w.heap[b]? = v0.heap[b]?
def StopC (P : Program) (Fs : Fns) (B0 : Nat) (kl kc : List Item) (csc : List Frame) (v0 : World) (Rd S0 : Nat → Prop) (StopL : Frame → List Frame → World → Prop) (S : Nat → Prop) (g : Goroutine) (w : World) : Prop :=
  ∃ ρ fl cl wl, AtC P Fs B0 kl kc csc v0 Rd S0 ρ fl cl wl S g w ∧ StopL fl cl wl
/-- All that is asked. -/
structure Setup (P : Program) (Fs : Fns) (B0 : Nat) (kl kc : List Item) (csc : List Frame) (fl0 fc0 : Frame) (cl0 cc0 : List Frame) (wl0 v0 : World) (Bd Rd S0 : Nat → Prop) (StopL : Frame → List Frame → World → Prop) : Prop where
  hz : ZeroOk P
  hO : ∀ ρ, FnsOk ⟨P, ρ, Fs⟩
  hG : P.globals.size ≤ B0
  hk : Tail kl kc
  hST : ∀ ρ : Rn, (∀ b, b < B0 → ρ.f b = b) → ST ⟨P, ρ, Fs⟩ B0 kl kc [badF] csc (fl0 :: cl0) (fc0 :: cc0)
  hwl : wl0.heap.size = B0
  hv : v0.heap.size = B0
  hW : ∀ ρ : Rn, (∀ b, b < B0 → ρ.f b = b) → WR ⟨P, ρ, Fs⟩ wl0 v0
  hal : ∀ b, b < B0 → Fs.al b = true → Fs.na b = false → S0 b ∨ Rd b
  hna : ∀ b, Fs.na b = true → b < B0 ∧ Bd b ∧ ¬ S0 b
  hwr : ∀ b, b < B0 → Fs.al b = true → Fs.wr b = true → S0 b
  hS0 : ∀ b, S0 b → b < B0
  hRd : ∀ b, Rd b → b < B0 ∧ ¬ S0 b
  hTerm : ∀ τ, ∃ M fl cl w, runN P M (lone fl0 cl0 { wl0 with tape := τ, drawn := 0 }) = .next (lone fl cl w) ∧ StopL fl cl w
  hSL : ∀ fl cl w, StopL fl cl w → (∀ ch, fl.mode ≠ .panicking ch) ∧ cl ≠ []
variable (U : Setup P Fs B0 kl kc csc fl0 fc0 cl0 cc0 wl0 v0 Bd Rd S0 StopL)
/-- One link of a way: the others' doing, a step. -/
def Lnk (P : Program) (main : Bool) (Bd Rd : Nat → Prop) (Stop : (Nat → Prop) → Goroutine → World → Prop) (x : St) (u : World) (y : St) : Prop :=
  RSB Bd Rd x.S x.w u ∧ ¬ Stop x.S x.g u ∧ ∃ es, stepG P main x.g u = .go y.g y.w es ∧ y.w = opW P x.g.frame u ∧ DS Rd x.S u y.w es y.S
theorem lone_inj {fl fl' : Frame} {cl cl' : List Frame} {w w' : World} (h : lone fl cl w = lone fl' cl' w') : fl = fl' ∧ cl = cl' ∧ w = w' := by
  unfold lone at h
  injection h with h1 h2 _
  injection h2 with h2
  injection h2 with h2 _
  injection h2 with h3 h4
  exact ⟨h3, h4, h1⟩
include U in
/-- The lone goroutine's next step, when it is not yet at its stop. -/
theorem next_step {ρ : Rn} {τ : Nat → Question → Nat} {N M : Nat} {fl : Frame} {cl : List Frame} {wl : World} {S : Nat → Prop} {g : Goroutine} {u : World}
    (hM : ∃ fl' cl' w', runN P M (lone fl0 cl0 { wl0 with tape := τ, drawn := 0 }) = .next (lone fl' cl' w') ∧ StopL fl' cl' w') (hN : runN P N (lone fl0 cl0 { wl0 with tape := τ, drawn := 0 }) = .next (lone fl cl wl)) (hlt : N < M)
    (hA : AtC P Fs B0 kl kc csc v0 Rd S0 ρ fl cl wl S g u) (hl : wl.tape = τ)
    (ht : ∀ i q, u.drawn + i < (opW P g.frame u).drawn → wl.tape (wl.drawn + i) q = u.tape (u.drawn + i) q) (hs : ∀ i, u.heap.size + i < (opW P g.frame u).heap.size → ρ.f (wl.heap.size + i) = u.heap.size + i) :
    ∃ gl L gc L' wl' v' es, step P (lone fl cl wl) = .next (lone gl L wl') ∧ stepG P main g u = .go (G gc L') v' es ∧ v' = opW P g.frame u ∧ DS Rd S u v' es (fun b => S b ∨ (u.heap.size ≤ b ∧ b < v'.heap.size)) ∧
      AtC P Fs B0 kl kc csc v0 Rd S0 ρ gl L wl' (fun b => S b ∨ (u.heap.size ≤ b ∧ b < v'.heap.size)) (G gc L') v' ∧ wl'.tape = τ ∧ wl'.heap.size = wl.heap.size + (v'.heap.size - u.heap.size) ∧ wl'.drawn = wl.drawn + (v'.drawn - u.drawn) := by
  obtain ⟨fl', cl', w', hMr, hMs⟩ := hM
  obtain ⟨j, rfl⟩ : ∃ j, M = N + (j + 1) := ⟨M - N - 1, by omega⟩
  rw [runN_more N (j + 1) hN] at hMr
  obtain ⟨hp, hcl⟩ := U.hSL _ _ _ hMs
  obtain ⟨fc, cc, rfl, hST⟩ := hA.st
  have hk0 : kl = [] ∨ kl = [.code (.refuse "")] := U.hk.imp (·.1) id
  have hps := hST.ps hk0
  have hF : Fix ⟨P, ρ, Fs⟩ := ⟨fun b hb => hA.id b (Nat.lt_of_lt_of_le hb U.hG), fun b hb h => by
    have hb : ¬ b < P.globals.size := hb
    have h : ρ.f b < P.globals.size := h
    have := U.hG
    rcases Nat.lt_or_ge b B0 with h1 | h1
    · rw [hA.id b h1] at h; exact hb h
    · have := hA.new b h1; omega⟩
  have hout := out (X := ⟨P, ρ, Fs⟩) (main := main) U.hz hF (U.hO ρ) (Nat.le_trans U.hG hA.low) U.hk hST hA.wr (fun hm => by
    -- the last frame on its return: behind it the lone goroutine is stuck
    apply Classical.byContradiction
    intro hn
    have hcl1 : cl = [badF] := Classical.byContradiction fun h => hn (.inl h)
    have hcc1 : cc = csc := Classical.byContradiction fun h => hn (.inr h)
    subst hcl1
    have hdefl : fl.defers = [] := by cases hps with | cons h _ _ => exact h
    have hkind : fl.kind = .normal := by
      rcases hST.fr with ⟨h, _, _⟩ | ⟨h, _⟩
      · exact h.kindl
      · exact h.kindl
    have dead : ∀ {o : Outcome} {w1 : World}, step P (lone fl [badF] wl) = .ended o w1 → False := by
      intro o w1 h
      rw [runN, h] at hMr
      cases hMr
    have popped : ∀ {a : Value} {w1 : World}, step P (lone fl [badF] wl) = .next (lone (badF.finish a) [] w1) → False := by
      intro a w1 h
      rw [runN, h] at hMr
      simp only at hMr
      cases j with
      | zero =>
        injection hMr with hMr
        exact hcl (lone_inj hMr).2.1.symm
      | succ j =>
        obtain ⟨o, w2, hb⟩ := step_bad_run (P := P) (w := w1) (u := a)
        rw [runN, hb] at hMr
        cases hMr
    cases hf : P.funcs[fl.fn]? with
    | none => exact popped (a := fl.tmps.getD 0 undef) (w1 := wl) (step_of_go (es := #[]) (by simp [G, stepG, unwind, doReturn, hm, hdefl, hkind, hf]))
    | some fn =>
      cases hr : (results fn fl.tmps).runT P wl #[] with
      | mk r es =>
        cases r with
        | ok a w1 => exact popped (step_of_go (sg_leave hm hdefl hkind hf hr))
        | halt h w1 =>
          obtain ⟨o, w2, es2, hx⟩ := sg_leave_dead (main := true) (c := badF) (cs := []) hm hdefl hf hr
          exact dead (step_of_ended hx)) ht hs
  cases hout with
  | dead h =>
    obtain ⟨o, w1, es, h⟩ := h
    rw [runN, step_of_ended h] at hMr
    cases hMr
  | pan h =>
    obtain ⟨ch, w1, es, h⟩ := h
    rw [runN, step_of_go h] at hMr
    obtain ⟨⟨c, r1⟩, r2, r3⟩ := raise_mode fl ch
    cases hps with
    | base => exfalso; rcases hST.fr with ⟨_, h, _⟩ | ⟨_, _, _, h⟩ <;> cases h
    | cons h1 h2 h3 =>
      obtain ⟨fr2, cs2, c2, e, hm2⟩ := panic_stays j _ _ _ c _ r1 (r2.trans h1) (by rw [r3]; exact h2) h3 hMr
      obtain ⟨e1, e2, e3⟩ := lone_inj e
      subst e1
      exact absurd hm2 (hp c2)
  | @ok gl gc L L' wl' v' es h1 h2 h3 h4 h5 h6 h7 h8 =>
    have hwsz : wl.heap.size ≤ wl'.heap.size := h6.size
    have hom := opW_mono P fc u
    have e7 : v' = opW P fc u := h7
    have husz : u.heap.size ≤ v'.heap.size := by rw [e7]; exact hom.size
    have hud : u.drawn ≤ v'.drawn := by rw [e7]; exact hom.drawn
    have hsz : wl'.heap.size = wl.heap.size + (v'.heap.size - u.heap.size) := by have := h5.size; omega
    have hdr : wl'.drawn = wl.drawn + (v'.drawn - u.drawn) := by have := h5.drawn; omega
    have hnew : ∀ c, wl.heap.size ≤ c → c < wl'.heap.size → ρ.f c = u.heap.size + (c - wl.heap.size) ∧ u.heap.size + (c - wl.heap.size) < v'.heap.size := by
      intro c hc1 hc2
      have h0 := hs (c - wl.heap.size) (by show _ < (opW P fc u).heap.size; rw [← e7]; omega)
      rw [show wl.heap.size + (c - wl.heap.size) = c by omega] at h0
      exact ⟨h0, by omega⟩
    have hlow := hA.low
    have hin : ∀ c, c < wl'.heap.size → Fs.al c = true → (c < wl.heap.size ∧ (Fs.na c = false → S (ρ.f c) ∨ Rd (ρ.f c)) ∧ (Fs.wr c = true → S (ρ.f c))) ∨ (wl.heap.size ≤ c ∧ u.heap.size ≤ ρ.f c ∧ ρ.f c < v'.heap.size) := by
      intro c hc ha
      rcases Nat.lt_or_ge c wl.heap.size with hc1 | hc1
      · refine .inl ⟨hc1, ?_⟩
        rcases Nat.lt_or_ge c B0 with hb | hb
        · rw [hA.id c hb]
          exact ⟨fun hn => (U.hal c hb ha hn).imp (fun h => (hA.mine c).2 (.inl h)) (fun h => h), fun hw => (hA.mine c).2 (.inl (U.hwr c hb ha hw))⟩
        · exact ⟨fun _ => .inl (hA.cover c hb hc1), fun _ => hA.cover c hb hc1⟩
      · obtain ⟨e1, e2⟩ := hnew c hc1 hc
        exact .inr ⟨hc1, by omega, by omega⟩
    have hD : DS Rd S u v' (es.map (renE ⟨P, ρ, Fs⟩)) (fun b => S b ∨ (u.heap.size ≤ b ∧ b < v'.heap.size)) := by
      refine ⟨h5.tapev, h5.os, h5.out, husz, fun b => Iff.rfl, fun b hb hn => h5.far b hb fun c hc ha hw e => ?_, fun e he => ?_⟩
      · rcases hin c (by omega) ha with ⟨_, _, h⟩ | ⟨h, _⟩
        · exact hn (e ▸ h hw)
        · omega
      · obtain ⟨e0, he0, rfl⟩ := Array.mem_map.1 he
        rcases h8 e0 he0 with ⟨a, l1, l2, l3, l4, l5⟩ | ⟨r, l1, l2, l3, l5⟩ | l
        · refine .inl ⟨renA ρ a, by show renL _ e0.loc = _; rw [l1]; rfl, ?_, l4⟩
          show (S (ρ.f a.block) ∨ _) ∨ (Rd (ρ.f a.block) ∧ e0.write = false)
          rcases hin a.block (inB_lt l2) (inB_al l2) with ⟨_, hh1, hh2⟩ | ⟨_, hh⟩
          · cases hw : e0.write with
            | true => exact .inl (.inl (hh2 (l3 hw)))
            | false => exact (hh1 l5).elim (fun h => .inl (.inl h)) (fun h => .inr ⟨h, rfl⟩)
          · exact .inl (.inr hh)
        · refine .inr (.inl ⟨ρ.f r, by show renL _ e0.loc = _; rw [l1]; rfl, ?_, fun h => (l3 h).2⟩)
          show (S (ρ.f r) ∨ _) ∨ (Rd (ρ.f r) ∧ e0.write = false)
          rcases hin r (inB_lt l2) (inB_al l2) with ⟨_, hh1, hh2⟩ | ⟨_, hh⟩
          · cases hw : e0.write with
            | true => exact .inl (.inl (hh2 (l3 hw).1))
            | false => exact (hh1 l5).elim (fun h => .inl (.inl h)) (fun h => .inr ⟨h, rfl⟩)
          · exact .inl (.inr hh)
        · subst l; exact .inr (.inr rfl)
    refine ⟨gl, L, gc, L', wl', v', _, step_of_go h1, h2, e7, hD, ?_, h5.tape.trans hl, hsz, hdr⟩
    refine ⟨hA.id, hA.new, ⟨gc, L', rfl, h3⟩, h4, by omega, fun c hc1 hc2 => ?_, fun b => ⟨fun h => ?_, fun h => ?_⟩, h5.tapev.trans hA.tape, h5.os.trans hA.os, h5.out.trans hA.output, Nat.le_trans hA.size husz, fun b hb => ?_⟩
    · rcases Nat.lt_or_ge c wl.heap.size with h | h
      · exact .inl (hA.cover c hc1 h)
      · obtain ⟨e1, e2⟩ := hnew c h hc2
        exact .inr (by rw [e1]; exact ⟨by omega, e2⟩)
    · rcases h with h | ⟨hb1, hb2⟩
      · exact ((hA.mine b).1 h).imp id fun ⟨c, hc1, hc2, e⟩ => ⟨c, hc1, by omega, e⟩
      · refine .inr ⟨wl.heap.size + (b - u.heap.size), by omega, by omega, ?_⟩
        have := (hnew (wl.heap.size + (b - u.heap.size)) (by omega) (by omega)).1
        rw [this]; omega
    · rcases h with h | ⟨c, hc1, hc2, e⟩
      · exact .inl ((hA.mine b).2 (.inl h))
      · rcases Nat.lt_or_ge c wl.heap.size with h | h
        · exact .inl ((hA.mine b).2 (.inr ⟨c, hc1, h, e⟩))
        · obtain ⟨e1, e2⟩ := hnew c h hc2
          exact .inr ⟨by omega, by omega⟩
    · obtain ⟨h1, h2⟩ := U.hRd b hb
      have hsz0 := hA.size
      have hvv := U.hv
      refine (hD.old b (by omega) fun hS => ?_).trans (hA.rd b hb)
      rcases (hA.mine b).1 hS with h | ⟨c, hc1, _, e⟩
      · exact h2 h
      · have := hA.new c hc1; omega
include U in
/-- The whole way: one renaming, one tape for the lone goroutine, at every link. -/
theorem path_at (Stop : (Nat → Prop) → Goroutine → World → Prop) (hStop : ∀ S g w, StopC P Fs B0 kl kc csc v0 Rd S0 StopL S g w → Stop S g w)
    (p : Nat → St) (u : Nat → World) (W : Nat → Prop) (h0 : p 0 = ⟨S0, G fc0 cc0, v0⟩) (hW0 : W 0) (hWd : ∀ N, W (N + 1) → W N)
    (hR : ∀ N, W N → RSB Bd Rd (p N).S (p N).w (u N) ∧ ¬ Stop (p N).S (p N).g (u N))
    (hL : ∀ N, W (N + 1) → ∃ es, stepG P main (p N).g (u N) = .go (p (N + 1)).g (p (N + 1)).w es ∧ (p (N + 1)).w = opW P (p N).g.frame (u N) ∧ DS Rd (p N).S (u N) (p (N + 1)).w es (p (N + 1)).S) :
    ∃ (ρ : Rn) (τ : Nat → Question → Nat) (M : Nat), (∃ fl' cl' w', runN P M (lone fl0 cl0 { wl0 with tape := τ, drawn := 0 }) = .next (lone fl' cl' w') ∧ StopL fl' cl' w') ∧
      ∀ N, W N → N < M ∧ ∃ fl cl wl, runN P N (lone fl0 cl0 { wl0 with tape := τ, drawn := 0 }) = .next (lone fl cl wl) ∧ AtC P Fs B0 kl kc csc v0 Rd S0 ρ fl cl wl (p N).S (p N).g (u N) ∧ wl.tape = τ ∧
        (∀ i q, (u N).drawn + i < (opW P (p N).g.frame (u N)).drawn → wl.tape (wl.drawn + i) q = (u N).tape ((u N).drawn + i) q) ∧ (∀ i, (u N).heap.size + i < (opW P (p N).g.frame (u N)).heap.size → ρ.f (wl.heap.size + i) = (u N).heap.size + i) := by
  classical
  let m : Nat → Nat := fun N => if W N then (opW P (p N).g.frame (u N)).heap.size - (u N).heap.size else 0
  let k : Nat → Nat := fun N => if W N then (opW P (p N).g.frame (u N)).drawn - (u N).drawn else 0
  let H : Nat → Nat := fun N => Nat.rec (u 0).heap.size (fun N h => if W (N + 1) then (u (N + 1)).heap.size else h + m N) N
  have hHW : ∀ N, W N → H N = (u N).heap.size := by
    intro N hN
    cases N with
    | zero => rfl
    | succ N => show (if W (N + 1) then (u (N + 1)).heap.size else _) = _; rw [if_pos hN]
  have hHm : ∀ N, H N + m N ≤ H (N + 1) := by
    intro N
    show _ ≤ (if W (N + 1) then (u (N + 1)).heap.size else H N + m N)
    by_cases h : W (N + 1)
    · rw [if_pos h, hHW N (hWd N h)]
      obtain ⟨es, _, e2, _⟩ := hL N h
      have h3 := (hR (N + 1) h).1.size
      have h4 := (opW_mono P (p N).g.frame (u N)).size
      show _ + (if W N then _ else 0) ≤ _
      rw [if_pos (hWd N h), ← e2]
      rw [← e2] at h4
      omega
    · rw [if_neg h]; exact Nat.le_refl _
  have hst : (p 0).w = v0 ∧ (p 0).S = S0 ∧ (p 0).g = G fc0 cc0 := by rw [h0]; exact ⟨rfl, rfl, rfl⟩
  have hu0 := (hR 0 hW0).1
  rw [hst.1, hst.2.1] at hu0
  have hb0 : B0 ≤ H 0 := by rw [hHW 0 hW0, ← U.hv]; exact hu0.size
  obtain ⟨ρ, hid, hge, hlay⟩ := exists_rn B0 m H hHm hb0
  let τ : Nat → Question → Nat := fun d q => v0.tape (lay 0 k (fun N => (u N).drawn) d) q
  obtain ⟨M, hM⟩ := U.hTerm τ
  refine ⟨ρ, τ, M, hM, ?_⟩
  -- the lone goroutine's state at link N, with how many blocks and draws it has
  have key : ∀ N, W N → N < M ∧ ∃ fl cl wl, runN P N (lone fl0 cl0 { wl0 with tape := τ, drawn := 0 }) = .next (lone fl cl wl) ∧ AtC P Fs B0 kl kc csc v0 Rd S0 ρ fl cl wl (p N).S (p N).g (u N) ∧ wl.tape = τ ∧ wl.heap.size = bs B0 m N ∧ wl.drawn = bs 0 k N := by
    have notyet : ∀ N, W N → (N = 0 ∨ ∃ N', N = N' + 1 ∧ N' < M) → (∃ fl cl wl, runN P N (lone fl0 cl0 { wl0 with tape := τ, drawn := 0 }) = .next (lone fl cl wl) ∧ AtC P Fs B0 kl kc csc v0 Rd S0 ρ fl cl wl (p N).S (p N).g (u N)) → N < M := by
      rintro N hN hle ⟨fl, cl, wl, hr, hA⟩
      apply Classical.byContradiction
      intro hge
      obtain rfl : N = M := by
        rcases hle with h | ⟨N', h1, h2⟩ <;> omega
      obtain ⟨fl', cl', w', hMr, hMs⟩ := hM
      rw [hr] at hMr
      injection hMr with hMr
      obtain ⟨rfl, rfl, rfl⟩ := lone_inj hMr
      exact (hR N hN).2 (hStop _ _ _ ⟨ρ, _, _, _, hA, hMs⟩)
    intro N
    induction N with
    | zero =>
      intro hN
      have hA : AtC P Fs B0 kl kc csc v0 Rd S0 ρ fl0 cl0 { wl0 with tape := τ, drawn := 0 } (p 0).S (p 0).g (u 0) := by
        rw [hst.2.1, hst.2.2]
        have hwr := U.hW ρ hid
        refine ⟨hid, hge, ⟨fc0, cc0, rfl, by show ST _ wl0.heap.size _ _ _ _ _ _; rw [U.hwl]; exact U.hST ρ hid⟩, WR.relyN (wl := { wl0 with tape := τ, drawn := 0 }) ⟨hwr.blk, hwr.off, hwr.fresh, hwr.nam⟩ (fun c hc ha hn => ?_) (fun c hc hn => ?_), by show B0 ≤ wl0.heap.size; rw [U.hwl]; exact Nat.le_refl _, fun c h1 h2 => ?_, fun b => ⟨.inl, fun h => h.elim id fun ⟨c, h1, h2, _⟩ => ?_⟩,
          hu0.tape, hu0.os, hu0.output, hu0.size, fun b hb => hu0.rd b hb⟩
        · have hc' : c < B0 := by rw [← U.hwl]; exact hc
          show (u 0).heap[ρ.f c]? = _
          rw [hid c hc']
          rcases U.hal c hc' ha hn with h | h
          · exact hu0.own c h
          · exact hu0.rd c h
        · obtain ⟨q1, q2, _⟩ := U.hna c hn
          show ∀ cc e fr, v0.heap[ρ.f c]? = _ → ∃ c' fr', (u 0).heap[ρ.f c]? = _
          rw [hid c q1]
          exact fun cc e fr h => hu0.bd c q2 cc e fr h
        · have : c < B0 := by rw [← U.hwl]; exact h2
          exfalso; omega
        · have : c < B0 := by rw [← U.hwl]; exact h2
          exfalso; omega
      exact ⟨notyet 0 hN (.inl rfl) ⟨_, _, _, rfl, hA⟩, _, _, _, rfl, hA, rfl, U.hwl, rfl⟩
    | succ N ih =>
      intro hN1
      have hN := hWd N hN1
      obtain ⟨hlt, fl, cl, wl, hr, hA, hl, hsz, hdr⟩ := ih hN
      have ht : ∀ i q, (u N).drawn + i < (opW P (p N).g.frame (u N)).drawn → wl.tape (wl.drawn + i) q = (u N).tape ((u N).drawn + i) q := by
        intro i q hi
        have hki : i < k N := by show i < (if W N then _ else 0); rw [if_pos hN]; omega
        rw [hl, hdr, hA.tape]
        show v0.tape (lay 0 k (fun N => (u N).drawn) (bs 0 k N + i)) q = _
        rw [lay_at 0 k _ hki]
      have hs : ∀ i, (u N).heap.size + i < (opW P (p N).g.frame (u N)).heap.size → ρ.f (wl.heap.size + i) = (u N).heap.size + i := by
        intro i hi
        have hmi : i < m N := by show i < (if W N then _ else 0); rw [if_pos hN]; omega
        rw [hsz, hlay N i hmi, hHW N hN]
      obtain ⟨gl, L, gc, L', wl', v', es, q1, q2, q3, q4, q5, q6, q7, q8⟩ := next_step (main := main) U hM hr hlt hA hl ht hs
      obtain ⟨es2, l1, l2, l3⟩ := hL N hN1
      rw [q2] at l1
      injection l1 with l1a l1b l1c
      have hr1 : runN P (N + 1) (lone fl0 cl0 { wl0 with tape := τ, drawn := 0 }) = .next (lone gl L wl') := by
        rw [runN_more N 1 hr, runN, q1]; rfl
      have hR1 := (hR (N + 1) hN1).1
      have hS : ∀ b, (p (N + 1)).S b ↔ (p N).S b ∨ ((u N).heap.size ≤ b ∧ b < v'.heap.size) := by
        intro b
        have := l3.own b
        rw [← l1b] at this
        exact this
      rw [← l1b] at hR1
      have hA1 : AtC P Fs B0 kl kc csc v0 Rd S0 ρ gl L wl' (p (N + 1)).S (p (N + 1)).g (u (N + 1)) := by
        rw [← l1a]
        refine ⟨q5.id, q5.new, q5.st, q5.wr.relyN (fun c hc ha hn => ?_) (fun c hc hn => ?_), q5.low, fun c h1 h2 => (hS _).2 (q5.cover c h1 h2), fun b => (hS b).trans (q5.mine b), hR1.tape.trans q5.tape, hR1.os.trans q5.os, hR1.output.trans q5.output, Nat.le_trans q5.size hR1.size, fun b hb => (hR1.rd b hb).trans (q5.rd b hb)⟩
        · show (u (N + 1)).heap[ρ.f c]? = v'.heap[ρ.f c]?
          rcases Nat.lt_or_ge c B0 with hb | hb
          · rw [hid c hb]
            rcases U.hal c hb ha hn with h | h
            · exact hR1.own c ((hS c).2 ((q5.mine c).2 (.inl h)))
            · exact hR1.rd c h
          · exact hR1.own _ ((hS _).2 (q5.cover c hb hc))
        · obtain ⟨z1, z2, _⟩ := U.hna c hn
          show ∀ cc e fr, v'.heap[ρ.f c]? = _ → ∃ c' fr', (u (N + 1)).heap[ρ.f c]? = _
          rw [hid c z1]
          exact fun cc e fr h => hR1.bd c z2 cc e fr h
      refine ⟨notyet (N + 1) hN1 (.inr ⟨N, rfl, hlt⟩) ⟨_, _, _, hr1, hA1⟩, gl, L, wl', hr1, hA1, q6, ?_, ?_⟩
      · rw [q7, hsz]
        show _ = bs B0 m N + (if W N then _ else 0)
        rw [if_pos hN, ← q3]
      · rw [q8, hdr]
        show _ = bs 0 k N + (if W N then _ else 0)
        rw [if_pos hN, ← q3]
  intro N hN
  obtain ⟨hlt, fl, cl, wl, hr, hA, hl, hsz, hdr⟩ := key N hN
  refine ⟨hlt, fl, cl, wl, hr, hA, hl, fun i q hi => ?_, fun i hi => ?_⟩
  · have hki : i < k N := by show i < (if W N then _ else 0); rw [if_pos hN]; omega
    rw [hl, hdr, hA.tape]
    show v0.tape (lay 0 k (fun N => (u N).drawn) (bs 0 k N + i)) q = _
    rw [lay_at 0 k _ hki]
  · have hmi : i < m N := by show i < (if W N then _ else 0); rw [if_pos hN]; omega
    rw [hsz, hlay N i hmi, hHW N hN]
include U in
/-- ████ WHAT THE LONE GOROUTINE'S RUN COMES TO ON EVERY TAPE, THE GOROUTINE IN COMPANY COMES TO. ████ -/
theorem transferB : Go1 P main (RSB Bd Rd) (DS Rd) (StopC P Fs B0 kl kc csc v0 Rd S0 StopL) S0 (G fc0 cc0) v0 := by
  classical
  let Stop := StopC P Fs B0 kl kc csc v0 Rd S0 StopL
  let x0 : St := ⟨S0, G fc0 cc0, v0⟩
  let r : St → St → Prop := fun y x => ∃ u, Lnk P main Bd Rd Stop x u y
  -- no endless way
  have hacc : Acc r x0 := by
    apply Classical.byContradiction
    intro hn
    obtain ⟨p, hp0, hp⟩ := endless hn
    let u : Nat → World := fun n => Classical.choose (hp n)
    have hu : ∀ n, Lnk P main Bd Rd Stop (p n) (u n) (p (n + 1)) := fun n => Classical.choose_spec (hp n)
    obtain ⟨ρ, τ, M, _, hall⟩ := path_at (main := main) U Stop (fun _ _ _ h => h) p u (fun _ => True) hp0 trivial (fun _ _ => trivial) (fun N _ => ⟨(hu N).1, (hu N).2.1⟩) (fun N _ => (hu N).2.2)
    have := (hall M trivial).1
    omega
  -- behind every way there is a step
  have hsafe : ∀ (n : Nat) (p : Nat → St) (u : Nat → World), p 0 = x0 → (∀ N, N < n → Lnk P main Bd Rd Stop (p N) (u N) (p (N + 1))) → ∀ w₁, RSB Bd Rd (p n).S (p n).w w₁ → ¬ Stop (p n).S (p n).g w₁ →
      (p n).g.status = .running ∧ ∃ y, Lnk P main Bd Rd Stop (p n) w₁ y := by
    intro n p u hp0 hp w₁ hr hns
    let u' : Nat → World := fun N => if N < n then u N else w₁
    have hu' : ∀ N, N < n → u' N = u N := fun N h => by show (if N < n then u N else w₁) = _; rw [if_pos h]
    have hun : u' n = w₁ := by show (if n < n then u n else w₁) = _; rw [if_neg (by omega)]
    obtain ⟨ρ, τ, M, hM, hall⟩ := path_at (main := main) U Stop (fun _ _ _ h => h) p u' (fun N => N ≤ n) hp0 (Nat.zero_le _) (fun N h => by omega)
      (fun N h => by
        rcases Nat.lt_or_ge N n with h1 | h1
        · rw [hu' N h1]; exact ⟨(hp N h1).1, (hp N h1).2.1⟩
        · obtain rfl : N = n := by omega
          rw [hun]; exact ⟨hr, hns⟩)
      (fun N h => by rw [hu' N (by omega)]; exact (hp N (by omega)).2.2)
    obtain ⟨hlt, fl, cl, wl, hrun, hA, hl, ht, hs⟩ := hall n (Nat.le_refl _)
    rw [hun] at hA ht hs
    obtain ⟨gl, L, gc, L', wl', v', es, q1, q2, q3, q4, q5, _⟩ := next_step (main := main) U hM hrun hlt hA hl ht hs
    obtain ⟨fc, cc, hg, _⟩ := hA.st
    exact ⟨by rw [hg]; rfl, ⟨_, G gc L', v'⟩, hr, hns, es, q2, q3, q4⟩
  -- so it is on its way
  have main_ : ∀ x, Acc r x → (∃ (n : Nat) (p : Nat → St) (u : Nat → World), p 0 = x0 ∧ p n = x ∧ ∀ N, N < n → Lnk P main Bd Rd Stop (p N) (u N) (p (N + 1))) → Go1 P main (RSB Bd Rd) (DS Rd) Stop x.S x.g x.w := by
    intro x hx
    induction hx with
    | intro x _ ih =>
      rintro ⟨n, p, u, hp0, hpn, hp⟩
      refine Go1.intro fun w₁ hr => ?_
      by_cases hs : Stop x.S x.g w₁
      · exact .inl hs
      · subst hpn
        obtain ⟨hrun, y, hy⟩ := hsafe n p u hp0 hp w₁ hr hs
        obtain ⟨es, e1, _, e3⟩ := hy.2.2
        refine .inr ⟨hrun, y.g, y.w, es, y.S, e1, e3, ih y ⟨w₁, hy⟩ ⟨n + 1, fun N => if N ≤ n then p N else y, fun N => if N < n then u N else w₁, ?_, ?_, ?_⟩⟩
        · simp only [Nat.zero_le, if_true]; exact hp0
        · have : ¬ n + 1 ≤ n := by omega
          simp only [this, if_false]
        · intro N hN
          rcases Nat.lt_or_ge N n with h1 | h1
          · have h2 : N ≤ n := by omega
            have h3 : N + 1 ≤ n := by omega
            simp only [h1, h2, h3, if_true]
            exact hp N h1
          · obtain rfl : N = n := by omega
            have h2 : ¬ N < N := by omega
            have h3 : ¬ N + 1 ≤ N := by omega
            simp only [h2, h3, Nat.le_refl, if_true, if_false]
            exact hy
  exact main_ x0 hacc ⟨0, fun _ => x0, fun _ => v0, rfl, rfl, fun N h => by omega⟩
end
section
variable {P : Program} {Fs : Fns} {B0 : Nat} {kl kc : List Item} {csc : List Frame} {fl0 fc0 : Frame} {cl0 cc0 : List Frame} {wl0 v0 : World} {Rd S0 : Nat → Prop} {StopL : Frame → List Frame → World → Prop} {main : Bool}
/-- No block is named alone. -/
theorem transfer (U : Setup P Fs B0 kl kc csc fl0 fc0 cl0 cc0 wl0 v0 (fun _ => False) Rd S0 StopL) : Go1 P main (RS Rd) (DS Rd) (StopC P Fs B0 kl kc csc v0 Rd S0 StopL) S0 (G fc0 cc0) v0 := by
  obtain ⟨T, h⟩ := transferB (main := main) U
  exact ⟨T, h.mono (fun s a b hr => ⟨hr, fun _ h => h.elim⟩) (fun _ _ _ _ _ h => h) (fun _ _ _ h => h)⟩
end
end Go.Proofs.Ytmmolicodlmlkaa.Rel
namespace Go.Proofs.Ytmmolicodlmlkaa.Rel
open Go.Conc (G)
set_option linter.unusedVariables false

/-- Not seen as another type, and no number. -/
def plainO : Option Obj → Bool
  | some (.view _ _) | some (.number _ _) => false
  | _ => true
open Classical in
/-- Which functions may be called; which blocks may be named, which may be written, which are named alone. -/
noncomputable def fnsNa (fs : FuncId → Bool) (v : World) (al wr na : Nat → Prop) : Fns :=
  ⟨fs, fun b => if b < v.heap.size then decide (na b) || (decide (al b) && plainO v.heap[b]?) else true, fun b => if b < v.heap.size then decide (wr b) else true, fun b => decide (na b)⟩
open Classical in
noncomputable def fnsOf (fs : FuncId → Bool) (v : World) (al wr : Nat → Prop) : Fns :=
  ⟨fs, fun b => if b < v.heap.size then decide (al b) && plainO v.heap[b]? else true, fun b => if b < v.heap.size then decide (wr b) else true, fun _ => false⟩
noncomputable def loneO (Fs : Fns) (B : Nat) (wr : Bool) : Obj → Obj
  | .cells c e fr => if wr then (if fr = (0, 0) then .cells (c.map (absV Fs B)) e (0, 0) else .cells #[] e (0, 1)) else if c.size = 0 ∧ fr ≠ (0, 0) then .cells #[] e (0, 1) else .cells (c.map (absV Fs B)) e (0, c.size)
  | o => stand o
/-- What stands for a block that is named alone. -/
def hollow : Obj → Obj
  | .cells _ e _ => .cells #[] e (0, 1)
  | o => o
noncomputable def loneW (Fs : Fns) (v : World) : World := { v with heap := v.heap.mapIdx fun b o => if Fs.na b then hollow o else if Fs.al b then loneO Fs v.heap.size (Fs.wr b) o else .coro none }
section
variable {P : Program} {Fs : Fns} {v : World}
theorem loneW_size : (loneW Fs v).heap.size = v.heap.size := by simp [loneW]
theorem loneW_get (b : Nat) : (loneW Fs v).heap[b]? = (v.heap[b]?).map fun o => if Fs.na b then hollow o else if Fs.al b then loneO Fs v.heap.size (Fs.wr b) o else .coro none := by
  simp [loneW]
theorem abs_clean {B : Nat} {c : Array Value} (ho : ∀ x ∈ c, okV Fs B x = true) : c.map (absV Fs B) = c := by
  apply Array.ext (by simp)
  intro i h1 h2
  rw [Array.getElem_map]
  exact absV_same _ (ho _ (Array.getElem_mem h2))
/-- A block that may be named and written, of clean cells. -/
theorem loneW_own {b : Nat} {c : Array Value} {e : TypeId} (h : v.heap[b]? = some (.cells c e (0, 0))) (hn : Fs.na b = false) (ha : Fs.al b = true) (hw : Fs.wr b = true) (ho : ∀ x ∈ c, okV Fs v.heap.size x = true) : (loneW Fs v).heap[b]? = some (.cells c e (0, 0)) := by
  rw [loneW_get, h]
  simp only [Option.map_some, hn, ha, if_true, if_false, Bool.false_eq_true, loneO, hw, abs_clean ho]
theorem loneW_rd {b : Nat} {c : Array Value} {e : TypeId} (h : v.heap[b]? = some (.cells c e (0, 0))) (hn : Fs.na b = false) (ha : Fs.al b = true) (hw : Fs.wr b = false) (ho : ∀ x ∈ c, okV Fs v.heap.size x = true) : (loneW Fs v).heap[b]? = some (.cells c e (0, c.size)) := by
  rw [loneW_get, h]
  have : ¬ (c.size = 0 ∧ ((0, 0) : Nat × Nat) ≠ (0, 0)) := fun h => h.2 rfl
  simp only [Option.map_some, hn, ha, if_true, if_false, Bool.false_eq_true, loneO, hw, abs_clean ho]
  rw [if_neg this]
theorem loneW_cell {a : Addr} {c : Array Value} {e : TypeId} (h : v.heap[a.block]? = some (.cells c e (0, 0))) (hn : Fs.na a.block = false) (ha : Fs.al a.block = true) (ho : ∀ x ∈ c, okV Fs v.heap.size x = true) : (loneW Fs v).cell? a = v.cell? a := by
  unfold World.cell?
  cases hw : Fs.wr a.block with
  | true => rw [loneW_own h hn ha hw ho, h]
  | false => rw [loneW_rd h hn ha hw ho, h]
/-- A cell that is read alone, whatever else lies beside it. -/
theorem loneW_at {a : Addr} {u : Value} (h : v.cell? a = some u) (hn : Fs.na a.block = false) (ha : Fs.al a.block = true) (hw : Fs.wr a.block = false) (ho : okV Fs v.heap.size u = true) : (loneW Fs v).cell? a = some u := by
  unfold World.cell? at h ⊢
  rw [loneW_get]
  cases hb : v.heap[a.block]? with
  | none => rw [hb] at h; cases h
  | some o =>
    rw [hb] at h
    cases o <;> first | (simp at h; done) | skip
    rename_i c e fr
    simp only at h
    by_cases hs : a.spot.isSome = true
    · rw [if_pos hs] at h; cases h
    · rw [if_neg hs] at h
      have : ¬ (c.size = 0 ∧ fr ≠ (0, 0)) := fun h' => by
        have := (Array.getElem?_eq_some_iff.1 h).1
        omega
      simp only [Option.map_some, hn, ha, if_true, if_false, Bool.false_eq_true, loneO, hw]
      rw [if_neg this]
      simp only [hs, if_false, Bool.false_eq_true]
      rw [Array.getElem?_map, h, Option.map_some, absV_same _ ho]
theorem loneW_wr (hp : ∀ b, b < v.heap.size → Fs.al b = true → Fs.na b = false → plainO v.heap[b]? = true) (hf : ∀ b, v.heap.size ≤ b → Fs.al b = true ∧ Fs.wr b = true ∧ Fs.na b = false) (hn : ∀ b, Fs.na b = true → Fs.al b = true ∧ ∃ c e fr, v.heap[b]? = some (.cells c e fr)) (ρ : Rn) (hρ : ∀ b, b < v.heap.size → ρ.f b = b) : WR ⟨P, ρ, Fs⟩ (loneW Fs v) v := by
  refine ⟨fun b hb ha => ?_, fun b hb ha => ?_, fun b hb => hf b (by rw [loneW_size] at hb; exact hb), fun b hb => ?_⟩
  · rw [loneW_size] at hb ⊢
    have ha' : Fs.al b = true := ha
    have hg : v.heap[b]? = some v.heap[b] := Array.getElem?_eq_getElem hb
    cases hnb : Fs.na b with
    | true =>
      obtain ⟨_, c, e, fr, h2⟩ := hn b hnb
      exact ⟨.cells #[] e (0, 1), .cells c e fr, by rw [loneW_get, h2]; simp [hnb, hollow], by show v.heap[ρ.f b]? = _; rw [hρ b hb, h2], .bad⟩
    | false =>
    have hpb := hp b hb ha hnb
    refine ⟨loneO Fs v.heap.size (Fs.wr b) v.heap[b], v.heap[b], ?_, ?_, ?_⟩
    · rw [loneW_get, hg]; simp [ha', hnb]
    · show v.heap[ρ.f b]? = _; rw [hρ b hb, hg]
    · rw [hg] at hpb
      cases ho : v.heap[b] with
      | cells c e fr =>
        have e1 : (c.map (absV Fs v.heap.size)).map (ren ρ) = c := by
          apply Array.ext (by simp)
          intro i h1 h2
          rw [Array.getElem_map, Array.getElem_map]
          exact absV_ren hρ _
        have hc : ∀ x ∈ c.map (absV Fs v.heap.size), okJ Fs v.heap.size x = true := fun x hx => by
          obtain ⟨y, _, rfl⟩ := Array.mem_map.1 hx
          exact absV_ok Fs _ y
        cases hw : Fs.wr b with
        | true =>
          by_cases hfr : fr = (0, 0)
          · subst hfr
            have := BR.cells (X := ⟨P, ρ, Fs⟩) (B := v.heap.size) (wr := Fs.wr b) (c := c.map (absV Fs v.heap.size)) (e := e) hw hc
            simp only [e1] at this
            rw [hw] at this
            simpa [loneO] using this
          · simp only [loneO, if_true, hfr, if_false]
            exact .bad
        | false =>
          by_cases hfr : c.size = 0 ∧ fr ≠ (0, 0)
          · simp only [loneO, Bool.false_eq_true, if_false]
            rw [if_pos hfr]
            exact .bad
          · have := BR.ro (X := ⟨P, ρ, Fs⟩) (B := v.heap.size) (wr := false) (c := c.map (absV Fs v.heap.size)) (e := e) (fr := fr) hc (fun h0 => Classical.byContradiction fun h => hfr ⟨by simpa using h0, h⟩)
            simp only [e1] at this
            simp only [loneO, Bool.false_eq_true, if_false]
            rw [if_neg hfr]
            simpa using this
      | view a t => rw [ho] at hpb; cases hpb
      | number a l => rw [ho] at hpb; cases hpb
      | pending c e => exact BR.dull (X := ⟨P, ρ, Fs⟩) (o := .pending c e) trivial
      | map a b => exact BR.dull (X := ⟨P, ρ, Fs⟩) (o := .map a b) trivial
      | chan a b c d e f => exact BR.dull (X := ⟨P, ρ, Fs⟩) (o := .chan a b c d e f) trivial
      | stringIter a b => exact BR.dull (X := ⟨P, ρ, Fs⟩) (o := .stringIter a b) trivial
      | mapIter a b c d => exact BR.dull (X := ⟨P, ρ, Fs⟩) (o := .mapIter a b c d) trivial
      | loop l => exact BR.dull (X := ⟨P, ρ, Fs⟩) (o := .loop l) trivial
      | deferred c => exact BR.dull (X := ⟨P, ρ, Fs⟩) (o := .deferred c) trivial
      | coro c => exact BR.dull (X := ⟨P, ρ, Fs⟩) (o := .coro c) trivial
      | finalizers a b => exact BR.dull (X := ⟨P, ρ, Fs⟩) (o := .finalizers a b) trivial
  · rw [loneW_size] at hb
    have ha' : Fs.al b = false := ha
    have hnb : Fs.na b = false := by
      cases h : Fs.na b with
      | false => rfl
      | true => rw [(hn b h).1] at ha'; cases ha'
    rw [loneW_get, Array.getElem?_eq_getElem hb]
    simp [ha', hnb]
  · obtain ⟨k1, c, e, fr, k2⟩ := hn b hb
    have hlt : b < v.heap.size := (Array.getElem?_eq_some_iff.1 k2).1
    have hb' : Fs.na b = true := hb
    exact ⟨k1, c, e, fr, by rw [loneW_get, k2]; simp [hb', hollow], by show v.heap[ρ.f b]? = _; rw [hρ b hlt, k2]⟩
end
/-! ### a call -/
section
variable {P : Program} {fs : FuncId → Bool} {v : World} {Rd S : Nat → Prop} {f : FuncId} {args : Array Value} {cs : List Frame} {main : Bool} {Q : Value → World → Prop}
/-- The call stands at its return: its value and its world are those of a lone call, but for the names of new blocks. -/
structure RetC (P : Program) (Fs : Fns) (v : World) (Rd S0 : Nat → Prop) (f : FuncId) (cs : List Frame) (Q : Value → World → Prop) (S : Nat → Prop) (g : Goroutine) (w : World) : Prop where
  out : ∃ (ρ : Rn) (fc : Frame) (u : Value) (wl : World), g = G fc cs ∧ fc.fn = f ∧ fc.mode = .returning ∧ fc.defers = [] ∧ fc.kind = .normal ∧ (∃ fn, P.funcs[f]? = some fn ∧ ∀ w₁ : World, (∀ b, S b ∨ Rd b → w₁.heap[b]? = w.heap[b]?) → ∃ es, (results fn fc.tmps).runT P w₁ #[] = (.ok (ren ρ u) w₁, es) ∧ ∀ e ∈ es, EvS Rd S e) ∧
    Q u wl ∧ okJ Fs wl.heap.size u = true ∧ (∀ b, b < v.heap.size → ρ.f b = b) ∧ (∀ b, v.heap.size ≤ b → v.heap.size ≤ ρ.f b) ∧ WR ⟨P, ρ, Fs⟩ wl w ∧ v.heap.size ≤ wl.heap.size ∧
    (∀ b, S b ↔ S0 b ∨ (∃ c, v.heap.size ≤ c ∧ c < wl.heap.size ∧ ρ.f c = b))
  tape : w.tape = v.tape
  os : w.os = v.os
  output : w.output = v.output
  size : v.heap.size ≤ w.heap.size
  rd : ∀ b, Rd b → w.heap[b]? = v.heap[b]?
/-- It looks alone. -/
inductive Looks {α : Type} : Sem α → Prop
  | pure {a : α} : Looks (.pure a)
  | halt {h : Halt} : Looks (.halt h)
  | load {m : Mode} {a : Addr} {k : Value → Sem α} : (∀ v, Looks (k v)) → Looks (.load m a k)
  | program {k : Program → Sem α} : (∀ p, Looks (k p)) → Looks (.program k)
theorem Looks.bind {α β : Type} {s : Sem α} {f : α → Sem β} (h : Looks s) (hf : ∀ a, Looks (f a)) : Looks (s >>= f) := by
  show Looks (s.bind f)
  induction h with
  | pure => exact hf _
  | halt => exact .halt
  | load _ ih => exact .load fun v => ih v
  | program _ ih => exact .program fun p => ih p
theorem Looks.still {α : Type} {P : Program} {s : Sem α} (h : Looks s) : ∀ (w : World) (es : Array Event), resW (s.runT P w es).1 = w := by
  induction h with
  | pure => intro w es; rfl
  | halt => intro w es; simp [Sem.runT, resW]
  | load _ ih =>
    intro w es
    simp only [Sem.runT]
    split
    · exact ih _ w _
    · split
      · exact ih _ w _
      · rfl
  | program _ ih => intro w es; simp only [Sem.runT]; exact ih _ w es
theorem looks_results (fn : Func) (a : Array Value) : Looks (results fn a) := by
  have hA : ∀ t, Looks (isAgg t) := by
    intro t
    unfold isAgg underlying
    refine Looks.bind (Looks.bind (.program fun p => .pure) fun p => ?_) fun d => ?_
    · split
      · exact .pure
      · exact .halt
    · split <;> exact .pure
  have hS : ∀ t, Looks (sizeOf t) := by
    intro t
    unfold sizeOf typeInfo
    refine Looks.bind (Looks.bind (.program fun p => .pure) fun p => ?_) fun i => .pure
    split
    · exact .pure
    · exact .halt
  have hL : ∀ (n : Nat) (x : Addr) (i : Nat) (acc : Array Value), Looks (loadCellsFrom x i n acc) := by
    intro n
    induction n with
    | zero => intro x i acc; exact .pure
    | succ n ih => intro x i acc; exact .load fun v => ih _ _ _
  have hV : ∀ t (x : Addr), Looks (loadVar t x) := by
    intro t x
    unfold loadVar
    refine Looks.bind (hA t) fun b => ?_
    split
    · exact Looks.bind (hS t) fun n => Looks.bind (hL n x 0 #[]) fun c => .pure
    · exact .load fun v => .pure
  have hP : ∀ v, Looks (asAddr v) := by
    intro v
    unfold asAddr
    split
    · exact .pure
    · exact .program fun p => .halt
    · exact .halt
  unfold results
  rw [Array.mapM_eq_mapM_toList]
  have key : ∀ (l : List ResultVar), Looks (l.mapM fun | .tmp t => pure (a.getD t undef) | .cell x t => do loadVar t (← asAddr (a.getD x undef)) : Sem (List Value)) := by
    intro l
    induction l with
    | nil => exact .pure
    | cons r l ih =>
      rw [List.mapM_cons]
      cases r with
      | cell y t => exact Looks.bind (Looks.bind (hP _) fun x => hV t x) fun v => Looks.bind ih fun vs => .pure
      | tmp t => exact Looks.bind .pure fun v => Looks.bind ih fun vs => .pure
  exact Looks.bind (Looks.bind (key _) fun x => .pure) fun vs => .pure
theorem ret_out {kl kc : List Item} {cl : List Frame} {ρ : Rn} {fl fc : Frame} {wl w w₁ : World} {S' : Nat → Prop} {g : Goroutine} {fn : Func} {u : Value} {Fs : Fns} {k1 k2 : List Item} (hal : ∀ b, b < v.heap.size → Fs.al b = true → S b ∨ Rd b) (hwrs : ∀ b, b < v.heap.size → Fs.wr b = true → S b)
    (hA : AtC P Fs v.heap.size kl kc cs v Rd S ρ fl cl wl S' g w) (hfr : FR ⟨P, ρ, Fs⟩ wl.heap.size k1 k2 fl fc) (g5 : fn.results.all resOk = true) (hres : (results fn fl.tmps).run P wl = .ok u wl) (h₁ : RS Rd S' w w₁) :
    okJ Fs wl.heap.size u = true ∧ ∀ w₂ : World, (∀ b, S' b ∨ Rd b → w₂.heap[b]? = w₁.heap[b]?) → ∃ es, (results fn fc.tmps).runT P w₂ #[] = (.ok (ren ρ u) w₂, es) ∧ ∀ e ∈ es, EvS Rd S' e := by
  have hsr := sr_results (X := ⟨P, ρ, Fs⟩) hfr.tmps g5
  have hin : ∀ c, c < wl.heap.size → Fs.al c = true → S' (ρ.f c) ∨ Rd (ρ.f c) := fun c hc hca => by
    rcases Nat.lt_or_ge c v.heap.size with hb | hb
    · rw [hA.id c hb]
      exact (hal c hb hca).imp (fun h => (hA.mine c).2 (.inl h)) id
    · exact .inl (hA.cover c hb hc)
  have hwin : ∀ c, c < wl.heap.size → Fs.wr c = true → S' (ρ.f c) := fun c hc hcw => by
    rcases Nat.lt_or_ge c v.heap.size with hb | hb
    · rw [hA.id c hb]
      exact (hA.mine c).2 (.inl (hwrs c hb hcw))
    · exact hA.cover c hb hc
  have key : ∀ w₂ : World, (∀ b, S' b ∨ Rd b → w₂.heap[b]? = w₁.heap[b]?) → okJ Fs wl.heap.size u = true ∧ ∃ es, (results fn fc.tmps).runT P w₂ #[] = (.ok (ren ρ u) w₂, es) ∧ ∀ e ∈ es, EvS Rd S' e := by
    intro w₂ h₂
    have hwr : WR ⟨P, ρ, Fs⟩ wl w₂ := hA.wr.rely fun c hc hca => by
      show w₂.heap[ρ.f c]? = w.heap[ρ.f c]?
      have := hin c hc hca
      rw [h₂ _ this]
      exact this.elim (h₁.own _) (h₁.rd _)
    have hst := (looks_results fn fc.tmps).still (P := P) w₂ #[]
    have hstl := (looks_results fn fl.tmps).still (P := P) wl #[]
    have hrun := hsr.run ⟨P, ρ, Fs⟩ wl w₂ #[] #[] rfl hwr (by simp) (by rw [hst]; intro i q h; omega) (by rw [hst]; intro i h; omega)
    have hl1 : ((results fn fl.tmps).runT P wl #[]).1 = .ok u wl := by rw [Sem.runT_eq]; exact hres
    obtain ⟨r1, r2⟩ := hrun
    generalize hrl : (results fn fl.tmps).runT P wl #[] = rl at r1 r2 hl1
    generalize hrc : (results fn fc.tmps).runT P w₂ #[] = rc at r1 r2 hst
    obtain ⟨rl, el⟩ := rl
    obtain ⟨rc, ec⟩ := rc
    simp only at r1 r2 hl1 hst
    subst hl1
    cases r1 with
    | @ok a b wl' v' hN hw' hstep =>
      obtain rfl : v' = w₂ := hst
      obtain ⟨e1, e2⟩ := hN
      subst e1
      refine ⟨e2, ec, rfl, fun e he => ?_⟩
      rcases r2 with ⟨hh, ww, hx, _⟩ | ⟨hx, hev⟩
      · cases hx
      · subst hx
        obtain ⟨e0, he0, rfl⟩ := Array.mem_map.1 he
        rcases hev e0 he0 with h | h
        · simp at h
        · rcases h with ⟨a, l1, l2, l3, l4, l5⟩ | ⟨r, l1, l2, l3, l5⟩ | l
          · refine .inl ⟨renA ρ a, by show renL _ e0.loc = _; rw [l1]; rfl, ?_, l4⟩
            show S' (ρ.f a.block) ∨ (Rd (ρ.f a.block) ∧ e0.write = false)
            cases hw : e0.write with
            | true => exact .inl (hwin _ (inB_lt l2) (l3 hw))
            | false => exact (hin _ (inB_lt l2) (inB_al l2)).imp id fun h => ⟨h, rfl⟩
          · refine .inr (.inl ⟨ρ.f r, by show renL _ e0.loc = _; rw [l1]; rfl, ?_, fun h => (l3 h).2⟩)
            show S' (ρ.f r) ∨ (Rd (ρ.f r) ∧ e0.write = false)
            cases hw : e0.write with
            | true => exact .inl (hwin _ (inB_lt l2) (l3 hw).1)
            | false => exact (hin _ (inB_lt l2) (inB_al l2)).imp id fun h => ⟨h, rfl⟩
          · subst l; exact .inr (.inr rfl)
  exact ⟨(key w₁ fun _ _ => rfl).1, fun w₂ h₂ => (key w₂ h₂).2⟩
/-- ████ A CALL IN COMPANY. ████ -/
theorem call_company (hz : ZeroOk P) (hG : P.globals.size ≤ v.heap.size) (hO : ∀ ρ, FnsOk ⟨P, ρ, fnsOf fs v (fun b => S b ∨ Rd b) S⟩) (hS : ∀ b, S b → b < v.heap.size) (hR : ∀ b, Rd b → b < v.heap.size ∧ ¬ S b)
    (hf : fs f = true) (ha : ∀ x ∈ args, okV (fnsOf fs v (fun b => S b ∨ Rd b) S) v.heap.size x = true)
    (hcall : ∀ τ, Calls P f args { loneW (fnsOf fs v (fun b => S b ∨ Rd b) S) v with tape := τ, drawn := 0 } fun | .returned u, w => Q u w | _, _ => False) :
    Go1 P main (RS Rd) (DS Rd) (RetC P (fnsOf fs v (fun b => S b ∨ Rd b) S) v Rd S f cs Q) S (G (Frame.enter P f args .normal) cs) v := by
  classical
  generalize hFs : fnsOf fs v (fun b => S b ∨ Rd b) S = Fs at hO ha hcall ⊢
  have hfs : Fs.fs = fs := by rw [← hFs]; rfl
  have hal : ∀ b, b < v.heap.size → Fs.al b = true → (S b ∨ Rd b) ∧ plainO v.heap[b]? = true := by
    intro b hb h
    rw [← hFs] at h
    simp only [fnsOf, hb, if_true, Bool.and_eq_true, decide_eq_true_eq] at h
    exact h
  have hwr : ∀ b, b < v.heap.size → Fs.wr b = true → S b := by
    intro b hb h
    rw [← hFs] at h
    simpa only [fnsOf, hb, if_true, decide_eq_true_eq] using h
  have hna : ∀ b, Fs.na b = false := by intro b; rw [← hFs]; rfl
  have hnew : ∀ b, v.heap.size ≤ b → Fs.al b = true ∧ Fs.wr b = true ∧ Fs.na b = false := by
    intro b hb
    have : ¬ b < v.heap.size := by omega
    rw [← hFs]
    simp [fnsOf, this]
  have hargs : ∀ ρ : Rn, (∀ b, b < v.heap.size → ρ.f b = b) → RC ⟨P, ρ, Fs⟩ v.heap.size args args := by
    intro ρ hρ
    refine ⟨?_, fun x hx => okV_okJ _ _ _ (ha x hx)⟩
    apply Array.ext (by simp)
    intro i h1 h2
    rw [Array.getElem_map]
    exact (ren_agree hρ _ (ha _ (Array.getElem_mem h1))).symm
  let StopL : Frame → List Frame → World → Prop := fun fl cl w => ∃ u, Q u w ∧ cl = [badF] ∧ fl.fn = f ∧ fl.leaving P w (.returned u)
  have U : Setup P Fs v.heap.size [] [] cs (Frame.enter P f args .normal) (Frame.enter P f args .normal) [badF] cs (loneW Fs v) v (fun _ => False) Rd S StopL :=
    { hz := hz, hO := hO, hG := hG, hk := .inl ⟨rfl, rfl⟩,
      hST := fun ρ hρ => .last (FR.enter (X := ⟨P, ρ, Fs⟩) (hO ρ) (by show Fs.fs f = true; rw [hfs]; exact hf) (hargs ρ hρ)),
      hwl := loneW_size, hv := rfl, hW := fun ρ hρ => loneW_wr (fun b hb h _ => (hal b hb h).2) hnew (fun b h => by rw [hna b] at h; cases h) ρ hρ,
      hal := fun b hb h _ => (hal b hb h).1, hna := fun b h => (by rw [hna b] at h; cases h), hwr := fun b hb _ h => hwr b hb h, hS0 := hS, hRd := hR,
      hTerm := fun τ => by
        obtain ⟨e, w', fr, hq, hcome, hfn, hleave⟩ := hcall τ [badF]
        cases e with
        | returned u =>
          obtain ⟨n, hn⟩ := hcome
          exact ⟨n, fr, [badF], w', hn, u, hq, rfl, hfn, hleave⟩
        | panicked ch => exact hq.elim
        | outgrown => exact hq.elim,
      hSL := fun fl cl w ⟨u, _, h1, _, h2⟩ => ⟨fun ch h => (by rw [h2.1] at h; cases h), (by rw [h1]; simp)⟩ }
  refine (Go1.bind (fun s a => RS.refl a) (transfer (main := main) U) fun s g w ⟨ρ, fl, cl, wl, hA, u, hq, hcl, hfn, hlv⟩ => Go1.stop fun w₁ h₁ => ?_)
  subst hcl
  obtain ⟨fc, cc, rfl, hst⟩ := hA.st
  have hfr : FR ⟨P, ρ, Fs⟩ wl.heap.size [] [] fl fc ∧ cc = cs := by
    rcases hst.fr with ⟨h, _, h2⟩ | ⟨_, _, _, h⟩
    · exact ⟨h, h2⟩
    · exfalso
      cases h with
      | cons _ _ _ h => cases h
  obtain ⟨hfr, rfl⟩ := hfr
  obtain ⟨hm, hd, hk, fn, hfn1, hres⟩ := hlv
  have hmode : fc.mode = .returning := by
    rcases hfr.mode with ⟨h1, _⟩ | ⟨_, h2⟩
    · rw [hm] at h1; cases h1
    · exact h2
  obtain ⟨fn', c', g1, _, _, _, g5⟩ := hO ρ f (by show Fs.fs f = true; rw [hfs]; exact hf)
  have g1' : P.funcs[f]? = some fn' := g1
  rw [hfn] at hfn1
  rw [g1'] at hfn1
  obtain rfl := Option.some.inj hfn1
  obtain ⟨e2, hout⟩ := ret_out (fun b hb h => (hal b hb h).1) hwr hA hfr g5 hres h₁
  have hwr1 : WR ⟨P, ρ, Fs⟩ wl w₁ := hA.wr.rely fun c hc hca => by
    show w₁.heap[ρ.f c]? = w.heap[ρ.f c]?
    rcases Nat.lt_or_ge c v.heap.size with hb | hb
    · rw [hA.id c hb]
      rcases (hal c hb hca).1 with h | h
      · exact h₁.own c ((hA.mine c).2 (.inl h))
      · exact h₁.rd c h
    · exact h₁.own _ (hA.cover c hb hc)
  exact ⟨⟨ρ, fc, u, wl, rfl, hfr.fn.trans hfn, hmode, hfr.defc, hfr.kindc, ⟨fn', g1', hout⟩, hq, e2, hA.id, hA.new, hwr1, hA.low, hA.mine⟩, h₁.tape.trans hA.tape, h₁.os.trans hA.os, h₁.output.trans hA.output, Nat.le_trans hA.size h₁.size, fun b hb => (h₁.rd b hb).trans (hA.rd b hb)⟩
end
end Go.Proofs.Ytmmolicodlmlkaa.Rel
namespace Go.Proofs.Ytmmolicodlmlkaa.Rel
open Go.Conc (G)
set_option linter.unusedVariables false

section
variable {P : Program} {fs : FuncId → Bool} {al wr wr0 na na0 : Nat → Bool}
theorem opd_mono : ∀ x : Operand, opdOk P ⟨fs, fun _ => false, wr0, na0⟩ x = true → opdOk P ⟨fs, al, wr, na⟩ x = true
  | .tmp _, _ => rfl
  | .const v, h => h
  | .global g, h => by simp [opdOk] at h
  | .func f, h => h
theorem opds_mono (xs : Array Operand) (h : xs.all (opdOk P ⟨fs, fun _ => false, wr0, na0⟩) = true) : xs.all (opdOk P ⟨fs, al, wr, na⟩) = true := by
  rw [Array.all_eq_true'] at h ⊢
  exact fun x hx => opd_mono x (h x hx)
theorem parts_mono (xs : Array (Nat × Operand)) (h : (xs.all fun p => opdOk P ⟨fs, fun _ => false, wr0, na0⟩ p.2) = true) : (xs.all fun p => opdOk P ⟨fs, al, wr, na⟩ p.2) = true := by
  rw [Array.all_eq_true'] at h ⊢
  exact fun x hx => opd_mono x.2 (h x hx)
theorem oo_mono (x : Option Operand) (h : oOk P ⟨fs, fun _ => false, wr0, na0⟩ x = true) : oOk P ⟨fs, al, wr, na⟩ x = true := by
  cases x with
  | none => rfl
  | some x => exact opd_mono x h
theorem call_mono (c : Call) (h : callOk P ⟨fs, fun _ => false, wr0, na0⟩ c = true) : callOk P ⟨fs, al, wr, na⟩ c = true := by
  unfold callOk at h ⊢
  rw [Bool.and_eq_true] at h ⊢
  refine ⟨opds_mono _ h.1, ?_⟩
  have h2 := h.2
  obtain ⟨callee, args, ats⟩ := c
  cases callee with
  | value x => exact opd_mono x h2
  | builtin b => cases b <;> exact h2
  | invoke x n => exact h2
theorem op_mono (o : Oper) (h : opOk P ⟨fs, fun _ => false, wr0, na0⟩ o = true) : opOk P ⟨fs, al, wr, na⟩ o = true := by
  obtain ⟨dst, op, ty, pos, after, guard⟩ := o
  unfold opOk at h ⊢
  cases op <;> simp only [Bool.and_eq_true] at h ⊢ <;> first
    | exact opd_mono _ h
    | exact ⟨⟨opd_mono _ h.1.1, opd_mono _ h.1.2⟩, opd_mono _ h.2⟩
    | exact ⟨h.1, parts_mono _ h.2⟩
    | exact parts_mono _ h
    | exact ⟨opd_mono _ h.1, opd_mono _ h.2⟩
    | exact ⟨⟨h.1.1, opd_mono _ h.1.2⟩, opd_mono _ h.2⟩
    | exact ⟨h.1, opd_mono _ h.2⟩
    | exact ⟨⟨⟨⟨h.1.1.1.1, opd_mono _ h.1.1.1.2⟩, oo_mono _ h.1.1.2⟩, oo_mono _ h.1.2⟩, oo_mono _ h.2⟩
    | exact call_mono _ h
    | exact ⟨⟨⟨h.1.1.1, opd_mono _ h.1.1.2⟩, opd_mono _ h.1.2⟩, opd_mono _ h.2⟩
    | exact h
    | (rename_i r; cases r <;> exact h)
    | skip
  rename_i f first captured
  cases f with
  | func f =>
    simp only [Bool.and_eq_true] at h ⊢
    exact ⟨⟨h.1.1, opds_mono _ h.1.2⟩, opds_mono _ h.2⟩
  | _ => exact h
theorem code_mono : ∀ c : Code, codeOk P ⟨fs, fun _ => false, wr0, na0⟩ c = true → codeOk P ⟨fs, al, wr, na⟩ c = true
  | .skip, _ | .exit _, _ | .label _, _ | .goto _, _ | .ret, _ | .refuse _, _ => rfl
  | .region _ ops _, h => by
    simp only [codeOk] at h ⊢
    rw [Array.all_eq_true'] at h ⊢
    exact fun x hx => op_mono x (h x hx)
  | .seq a b, h => by
    simp only [codeOk, Bool.and_eq_true] at h ⊢
    exact ⟨code_mono a h.1, code_mono b h.2⟩
  | .cond c a b, h => by
    simp only [codeOk, Bool.and_eq_true] at h ⊢
    exact ⟨⟨opd_mono c h.1.1, code_mono a h.1.2⟩, code_mono b h.2⟩
  | .block _ a, h => by simp only [codeOk] at h ⊢; exact code_mono a h
  | .loop a, h => by simp only [codeOk] at h ⊢; exact code_mono a h
  | .scope a, h => by simp only [codeOk] at h ⊢; exact code_mono a h
  | .rangeFunc .., h => by cases h
/-- Looked at by the kernel, a function at a time. -/
def fnOk (P : Program) (fs : FuncId → Bool) (fn : Func) : Bool :=
  !(fn.name == "runtime.NumGoroutine") && (match fn.body with | some c => codeOk P ⟨fs, fun _ => false, fun _ => false, fun _ => false⟩ c | none => false) && fn.results.all resOk
theorem fnsOk_of {ρ : Rn} (h : ∀ f, fs f = true → ∃ fn, P.funcs[f]? = some fn ∧ fnOk P fs fn = true) : FnsOk ⟨P, ρ, ⟨fs, al, wr, na⟩⟩ := by
  intro f hf
  obtain ⟨fn, h1, h2⟩ := h f hf
  unfold fnOk at h2
  rw [Bool.and_eq_true, Bool.and_eq_true] at h2
  obtain ⟨⟨h3, h4⟩, h5⟩ := h2
  cases hb : fn.body with
  | none => rw [hb] at h4; cases h4
  | some c =>
    rw [hb] at h4
    exact ⟨fn, c, h1, by simpa using h3, hb, code_mono c h4, h5⟩
end
/-- The types' zero values. -/
def zerosOk (P : Program) : Bool := P.types.all fun i => match i.zero with | some z => noAddr z | none => true
theorem forIn_inv {α β : Type} (Q : β → Prop) (f : α → β → Option (ForInStep β)) (hs : ∀ a s r, Q s → f a s = some r → Q (match r with | .done s' => s' | .yield s' => s')) : ∀ (l : List α) (s s' : β), Q s → forIn l s f = some s' → Q s'
  | [], s, s', h, e => by simp at e; subst e; exact h
  | a :: l, s, s', h, e => by
    rw [List.forIn_cons] at e
    cases hf : f a s with
    | none => rw [hf] at e; cases e
    | some r =>
      rw [hf] at e
      have := hs a s r h hf
      cases r with
      | done x => simp at e; subst e; exact this
      | yield x => exact forIn_inv Q f hs l x s' this e
theorem na_cells {z : Value} (h : noAddr z = true) : ∀ v ∈ z.cells, noAddr v = true := by
  cases z <;> first
    | (intro v hv; simp [Value.cells] at hv; subst hv; exact h)
    | skip
  rw [noAddr, attach_all_noAddr, Array.all_eq_true'] at h
  intro v hv
  exact h v hv
theorem na_agg {cs : Array Value} (h : ∀ v ∈ cs, noAddr v = true) : noAddr (.agg cs) = true := by
  rw [noAddr, attach_all_noAddr, Array.all_eq_true']; exact h
theorem reckonStruct_zero {info : TypeId → Option TypeInfo} (hi : ∀ t i z, info t = some i → i.zero = some z → noAddr z = true) {fs : Array Field} {i : TypeInfo} {z : Value} (h : Made.reckonStruct info fs = some i) (hz : i.zero = some z) : noAddr z = true := by
  simp only [Made.reckonStruct] at h
  rw [← Array.forIn_toList] at h
  simp only [Option.bind_eq_bind, Option.bind_eq_some_iff] at h
  obtain ⟨s, hs, h⟩ := h
  have key := forIn_inv (fun s => ∀ zs, s.snd.snd.snd.snd.snd.snd.snd.fst = some zs → ∀ v ∈ zs, noAddr v = true) _ ?_ _ _ _ ?_ hs
  · have : i.zero = Option.map Value.agg s.snd.snd.snd.snd.snd.snd.snd.fst := by
      split at h <;> (simp only [Option.pure_def, Option.some.injEq] at h; rw [← h])
    rw [this] at hz
    obtain ⟨zs, h1, rfl⟩ := Option.map_eq_some_iff.1 hz
    exact na_agg (key zs h1)
  · clear hs h hz
    intro a s r hQ hr
    simp only [Option.bind_eq_bind, Option.bind_eq_some_iff] at hr
    obtain ⟨j, hj, hr⟩ := hr
    have fin : ∀ tag : String, ∀ l1 l2 : Nat, True := fun _ _ _ => trivial
    have fin : ∀ {zs : Array Value}, (if s.snd.fst + j.size > Made.mostCells then none else do pure ((← s.snd.snd.snd.snd.snd.snd.snd.fst) ++ (← j.zero).cells) : Option (Array Value)) = some zs → ∀ v ∈ zs, noAddr v = true := by
      intro zs e
      split at e
      · cases e
      · simp only [Option.bind_eq_bind, Option.bind_eq_some_iff, Option.pure_def, Option.some.injEq] at e
        obtain ⟨z0, h0, z1, h1, rfl⟩ := e
        intro v hv
        rcases Array.mem_append.1 hv with hv | hv
        · exact hQ z0 h0 v hv
        · exact na_cells (hi _ _ _ hj h1) v hv
    split at hr
    · simp at hr
    split at hr
    · simp at hr
    split at hr
    · simp only [Option.pure_def, Option.bind_some] at hr
      split at hr <;> (simp only [Option.some.injEq] at hr; subst hr; exact fun zs e => fin e)
    · obtain ⟨tag, _, hr⟩ := Option.bind_eq_some_iff.1 hr
      split at hr <;> (simp only [Option.pure_def, Option.some.injEq] at hr; subst hr; exact fun zs e => fin e)
  · intro zs e v hv
    simp only [Option.some.injEq] at e
    subst e
    simp at hv
theorem reckon_zero {info : TypeId → Option TypeInfo} (hi : ∀ t i z, info t = some i → i.zero = some z → noAddr z = true) {d : TypeDesc} {i : TypeInfo} {z : Value} (h : Made.reckon info d = some i) (hz : i.zero = some z) : noAddr z = true := by
  have wd : ∀ {d : TypeDesc} {s : String} {v : Value} {b : Bool} {n : Nat}, Made.word d s v b n = i → noAddr v = true → noAddr z = true := by
    intro d s v b n e hv
    rw [← e] at hz
    simp only [Made.word, Option.some.injEq] at hz
    rw [← hz]; exact hv
  unfold Made.reckon at h
  cases d <;> simp only [Option.bind_eq_bind, Option.bind_eq_some_iff, Option.pure_def, Option.some.injEq] at h <;> first
    | cases h; done
    | exact reckonStruct_zero hi h hz
    | skip
  · obtain ⟨a, _, h⟩ := h
    split at h
    · cases h
    · split at h
      · cases h
      · obtain ⟨_, _, h⟩ := Option.bind_eq_some_iff.1 h
        exact wd (Option.some.inj h) (by simp [noAddr])
    · obtain ⟨_, _, h⟩ := Option.bind_eq_some_iff.1 h
      exact wd (Option.some.inj h) (by simp [noAddr])
  · obtain ⟨_, _, _, _, h⟩ := h
    exact wd h (by simp [noAddr])
  · obtain ⟨a, ha, _, _, rfl⟩ := h
    simp only at hz
    split at hz
    · cases hz
    · split at hz
      · rw [← Option.some.inj hz]; exact na_agg (by simp)
      · obtain ⟨y, hy, rfl⟩ := Option.map_eq_some_iff.1 hz
        refine na_agg fun v hv => ?_
        obtain ⟨c, hc, hvc⟩ := Array.mem_flatten.1 hv
        rw [(Array.mem_replicate.1 hc).2] at hvc
        exact na_cells (hi _ _ _ ha hy) v hvc
  · obtain ⟨_, _, _, _, _, _, _, _, h⟩ := h
    exact wd h (by simp [noAddr])
  · obtain ⟨_, _, _, _, h⟩ := h
    exact wd h (by simp [noAddr])
  · obtain ⟨_, _, h⟩ := h
    exact wd h (by simp [noAddr])
theorem infoAt_zero {T : Tables} (h : ∀ i ∈ T.types, ∀ z, i.zero = some z → noAddr z = true) : ∀ (f : Nat) (t : TypeId) (i : TypeInfo) (z : Value), Made.infoAt T f t = some i → i.zero = some z → noAddr z = true
  | 0, t, i, z, hi, hz => by cases hi
  | f + 1, t, i, z, hi, hz => by
    unfold Made.infoAt at hi
    split at hi
    · exact h i (Array.mem_of_getElem? hi) z hz
    · obtain ⟨d, _, hr⟩ := Option.bind_eq_some_iff.1 hi
      exact reckon_zero (infoAt_zero h f) hr hz
theorem zeroOk_of {P : Program} (h : zerosOk P = true) : ZeroOk P := by
  have h' : ∀ i ∈ P.types, ∀ z, i.zero = some z → noAddr z = true := by
    intro i hi z hz
    unfold zerosOk at h
    rw [Array.all_eq_true'] at h
    have := h i hi
    rw [hz] at this
    exact this
  intro t i z hi hz
  unfold Tables.info? at hi
  split at hi
  · exact h' i (Array.mem_of_getElem? hi) z hz
  · exact infoAt_zero h' _ t i z hi hz
end Go.Proofs.Ytmmolicodlmlkaa.Rel
namespace Go.Proofs.Ytmmolicodlmlkaa.Rel
open Go.Conc (G base)
set_option linter.unusedVariables false

/-- The first n statements, then nothing more; and what is left. -/
def cut : Nat → Code → Code × Code
  | n + 1, .seq a b => (.seq a (cut n b).1, (cut n b).2)
  | _, c => (.refuse "", c)
def spineOk (P : Program) (Fs : Fns) : Nat → Code → Bool
  | 0, _ => true
  | n + 1, .seq a b => codeOk P Fs a && spineOk P Fs n b
  | _ + 1, _ => false
theorem tl_cut {P : Program} {Fs : Fns} : ∀ (n : Nat) (c : Code), spineOk P Fs n c = true → TL P Fs [.code (.refuse "")] [.code (cut n c).2] [.code (cut n c).1] [.code c]
  | 0, c, _ => by
    have : cut 0 c = (.refuse "", c) := by cases c <;> rfl
    rw [this]; exact .here
  | n + 1, .seq a b, h => by
    simp only [spineOk, Bool.and_eq_true] at h
    exact .seq h.1 (tl_cut n b h.2)
  | _ + 1, .skip, h | _ + 1, .region _ _ _, h | _ + 1, .cond _ _ _, h | _ + 1, .block _ _, h | _ + 1, .loop _, h | _ + 1, .rangeFunc _ _ _ _, h | _ + 1, .exit _, h | _ + 1, .scope _, h | _ + 1, .label _, h | _ + 1, .goto _, h | _ + 1, .ret, h | _ + 1, .refuse _, h => by cases h
theorem spine_mono {P : Program} {fs : FuncId → Bool} {al wr wr0 na na0 : Nat → Bool} : ∀ (n : Nat) (c : Code), spineOk P ⟨fs, fun _ => false, wr0, na0⟩ n c = true → spineOk P ⟨fs, al, wr, na⟩ n c = true
  | 0, c, _ => rfl
  | n + 1, .seq a b, h => by
    simp only [spineOk, Bool.and_eq_true] at h ⊢
    exact ⟨code_mono a h.1, spine_mono n b h.2⟩
  | _ + 1, .skip, h | _ + 1, .region _ _ _, h | _ + 1, .cond _ _ _, h | _ + 1, .block _ _, h | _ + 1, .loop _, h | _ + 1, .rangeFunc _ _ _ _, h | _ + 1, .exit _, h | _ + 1, .scope _, h | _ + 1, .label _, h | _ + 1, .goto _, h | _ + 1, .ret, h | _ + 1, .refuse _, h => by cases h
/-- No other way out. -/
def NoExit : Exit → Act → World → Prop := fun _ _ _ => False
/-- The lone walk through the first n statements comes to the cut. -/
def Reach (P : Program) (n : Nat) (c : Code) (Pre : Act → World → Prop) (a : Act) (w : World) : Prop :=
  ∀ (b : Frame) (cs : List Frame), ∃ a' w', Pre a' w' ∧ Steps P (lone (b.at a [.code (cut n c).1]) cs w) (lone (b.at a' [.code (.refuse "")]) cs w')
theorem reach_here {P : Program} {c : Code} {Pre : Act → World → Prop} {a : Act} {w : World} (h : Pre a w) : Reach P 0 c Pre a w := fun b cs => ⟨a, w, h, by
  have : (cut 0 c).1 = .refuse "" := by cases c <;> rfl
  rw [this]; exact ⟨0, rfl⟩⟩
theorem reach_seq {P : Program} {n : Nat} {x y : Code} {Pre : Act → World → Prop} {a : Act} {w : World} (h : x.wp P (Exit.then (fun a w => Reach P n y Pre a w) NoExit) a w) : Reach P (n + 1) (.seq x y) Pre a w := by
  intro b cs
  obtain ⟨e, a₁, w₁, hq, harr⟩ := h b [.code (cut n y).1] cs
  cases e with
  | normal =>
    obtain ⟨a₂, w₂, hp, hs⟩ := hq b cs
    exact ⟨a₂, w₂, hp, Steps.trans (.head step_seq harr) hs⟩
  | exit id => exact hq.elim
  | goto l => exact hq.elim
  | ret => exact hq.elim
  | panic ch => exact hq.elim
  | outgrown => exact hq.elim
/-! ### in company -/
section
variable {P : Program} {fs : FuncId → Bool} {v : World} {Rd S : Nat → Prop} {cs : List Frame} {main : Bool}
/-- What is asked of a walk that begins in this world. -/
theorem setup_lone {kl kc : List Item} {fl0 fc0 : Frame} {StopL : Frame → List Frame → World → Prop} (hz : ZeroOk P) (hG : P.globals.size ≤ v.heap.size) (hO : ∀ ρ, FnsOk ⟨P, ρ, fnsOf fs v (fun b => S b ∨ Rd b) S⟩) (hS : ∀ b, S b → b < v.heap.size) (hR : ∀ b, Rd b → b < v.heap.size ∧ ¬ S b) (hk : Tail kl kc)
    (hST : ∀ ρ : Rn, (∀ b, b < v.heap.size → ρ.f b = b) → FR ⟨P, ρ, fnsOf fs v (fun b => S b ∨ Rd b) S⟩ v.heap.size kl kc fl0 fc0)
    (hTerm : ∀ τ, ∃ M fl cl w, runN P M (lone fl0 [badF] { loneW (fnsOf fs v (fun b => S b ∨ Rd b) S) v with tape := τ, drawn := 0 }) = .next (lone fl cl w) ∧ StopL fl cl w)
    (hSL : ∀ fl cl w, StopL fl cl w → (∀ ch, fl.mode ≠ .panicking ch) ∧ cl ≠ []) :
    Setup P (fnsOf fs v (fun b => S b ∨ Rd b) S) v.heap.size kl kc cs fl0 fc0 [badF] cs (loneW (fnsOf fs v (fun b => S b ∨ Rd b) S) v) v (fun _ => False) Rd S StopL := by
  classical
  have hal : ∀ b, b < v.heap.size → (fnsOf fs v (fun b => S b ∨ Rd b) S).al b = true → (S b ∨ Rd b) ∧ plainO v.heap[b]? = true := by
    intro b hb h
    simp only [fnsOf, hb, if_true, Bool.and_eq_true, decide_eq_true_eq] at h
    exact h
  have hwr : ∀ b, b < v.heap.size → (fnsOf fs v (fun b => S b ∨ Rd b) S).wr b = true → S b := by
    intro b hb h
    simpa only [fnsOf, hb, if_true, decide_eq_true_eq] using h
  have hnew : ∀ b, v.heap.size ≤ b → (fnsOf fs v (fun b => S b ∨ Rd b) S).al b = true ∧ (fnsOf fs v (fun b => S b ∨ Rd b) S).wr b = true ∧ (fnsOf fs v (fun b => S b ∨ Rd b) S).na b = false := by
    intro b hb
    have : ¬ b < v.heap.size := by omega
    simp [fnsOf, this]
  exact { hz := hz, hO := hO, hG := hG, hk := hk, hST := fun ρ hρ => .last (hST ρ hρ), hwl := loneW_size, hv := rfl, hW := fun ρ hρ => loneW_wr (fun b hb h _ => (hal b hb h).2) hnew (fun b h => by cases h) ρ hρ,
          hal := fun b hb h _ => (hal b hb h).1, hna := fun b h => (by cases h), hwr := fun b hb _ h => hwr b hb h, hS0 := hS, hRd := hR, hTerm := hTerm, hSL := hSL }
/-- What a piece of a walk leaves: the worlds are alike but for the names of new blocks. -/
structure Left (P : Program) (Fs : Fns) (v : World) (Rd S0 : Nat → Prop) (ρ : Rn) (wl : World) (S : Nat → Prop) (w : World) : Prop where
  id : ∀ b, b < v.heap.size → ρ.f b = b
  new : ∀ b, v.heap.size ≤ b → v.heap.size ≤ ρ.f b
  wr : WR ⟨P, ρ, Fs⟩ wl w
  low : v.heap.size ≤ wl.heap.size
  mine : ∀ b, S b ↔ S0 b ∨ (∃ c, v.heap.size ≤ c ∧ c < wl.heap.size ∧ ρ.f c = b)
  tape : w.tape = v.tape
  os : w.os = v.os
  output : w.output = v.output
  size : v.heap.size ≤ w.heap.size
  rd : ∀ b, Rd b → w.heap[b]? = v.heap[b]?
theorem AtC.left {Fs : Fns} {kl kc : List Item} {csc : List Frame} {ρ : Rn} {fl : Frame} {cl : List Frame} {wl : World} {S' : Nat → Prop} {g : Goroutine} {w : World} (hA : AtC P Fs v.heap.size kl kc csc v Rd S ρ fl cl wl S' g w) (hal : ∀ b, b < v.heap.size → Fs.al b = true → S b ∨ Rd b) {w₁ : World} (h₁ : RS Rd S' w w₁) : Left P Fs v Rd S ρ wl S' w₁ :=
  ⟨hA.id, hA.new, hA.wr.rely fun c hc hca => by
    show w₁.heap[ρ.f c]? = w.heap[ρ.f c]?
    rcases Nat.lt_or_ge c v.heap.size with hb | hb
    · rw [hA.id c hb]
      rcases hal c hb hca with h | h
      · exact h₁.own c ((hA.mine c).2 (.inl h))
      · exact h₁.rd c h
    · exact h₁.own _ (hA.cover c hb hc), hA.low, hA.mine, h₁.tape.trans hA.tape, h₁.os.trans hA.os, h₁.output.trans hA.output, Nat.le_trans hA.size h₁.size, fun b hb => (h₁.rd b hb).trans (hA.rd b hb)⟩
/-- ████ UP TO A CUT, IN COMPANY. ████ -/
theorem cut_company {f : FuncId} {c : Code} {n : Nat} {a : Act} {Pre : Act → World → Prop} (hz : ZeroOk P) (hG : P.globals.size ≤ v.heap.size) (hO : ∀ ρ, FnsOk ⟨P, ρ, fnsOf fs v (fun b => S b ∨ Rd b) S⟩) (hS : ∀ b, S b → b < v.heap.size) (hR : ∀ b, Rd b → b < v.heap.size ∧ ¬ S b)
    (hsp : spineOk P (fnsOf fs v (fun b => S b ∨ Rd b) S) n c = true) (hd : a.defers = []) (ha : ∀ x ∈ a.tmps, okV (fnsOf fs v (fun b => S b ∨ Rd b) S) v.heap.size x = true)
    (hl : ∀ τ, Reach P n c Pre a { loneW (fnsOf fs v (fun b => S b ∨ Rd b) S) v with tape := τ, drawn := 0 }) :
    Go1 P main (RS Rd) (DS Rd) (fun S' g w => ∃ ρ a' wl, g = G ((base f).at ⟨a'.tmps.map (ren ρ), []⟩ [.code (cut n c).2]) cs ∧ Pre a' wl ∧ (∀ x ∈ a'.tmps, okJ (fnsOf fs v (fun b => S b ∨ Rd b) S) wl.heap.size x = true) ∧ Left P (fnsOf fs v (fun b => S b ∨ Rd b) S) v Rd S ρ wl S' w) S (G ((base f).at a [.code c]) cs) v := by
  classical
  have hal : ∀ b, b < v.heap.size → (fnsOf fs v (fun b => S b ∨ Rd b) S).al b = true → S b ∨ Rd b := by
    intro b hb h
    simp only [fnsOf, hb, if_true, Bool.and_eq_true, decide_eq_true_eq] at h
    exact h.1
  generalize hFs : fnsOf fs v (fun b => S b ∨ Rd b) S = Fs at *
  let StopL : Frame → List Frame → World → Prop := fun fl cl w => ∃ a', fl = (base f).at a' [.code (.refuse "")] ∧ cl = [badF] ∧ Pre a' w
  have U := setup_lone (P := P) (fs := fs) (v := v) (Rd := Rd) (S := S) (cs := cs) (kl := [.code (.refuse "")]) (kc := [.code (cut n c).2]) (fl0 := (base f).at a [.code (cut n c).1]) (fc0 := (base f).at a [.code c]) (StopL := StopL) hz hG (by rw [hFs]; exact hO) hS hR (.inr rfl)
    (by
      rw [hFs]
      intro ρ hρ
      refine ⟨rfl, ⟨?_, fun x hx => okV_okJ _ _ _ (ha x hx)⟩, ⟨[], _, _, rfl, rfl, by simp, tl_cut n c hsp⟩, hd, hd, .inl ⟨rfl, rfl⟩, rfl, rfl, rfl, rfl⟩
      apply Array.ext (by simp [Frame.at])
      intro i h1 h2
      rw [Array.getElem_map]
      exact (ren_agree hρ _ (ha _ (Array.getElem_mem h1))).symm)
    (by
      rw [hFs]
      intro τ
      obtain ⟨a', w', hp, M, hM⟩ := hl τ (base f) [badF]
      exact ⟨M, _, _, w', hM, a', rfl, rfl, hp⟩)
    (fun fl cl w ⟨a', h1, h2, _⟩ => ⟨fun ch e => (by rw [h1] at e; cases e), (by rw [h2]; simp)⟩)
  rw [hFs] at U
  refine Go1.bind (fun s a => RS.refl a) (transfer (main := main) U) fun s g w ⟨ρ, fl, cl, wl, hA, a', hfl, hcl, hp⟩ => Go1.stop fun w₁ h₁ => ?_
  subst hcl; subst hfl
  obtain ⟨fc, cc, rfl, hst⟩ := hA.st
  have hfr : FR ⟨P, ρ, Fs⟩ wl.heap.size [.code (.refuse "")] [.code (cut n c).2] ((base f).at a' [.code (.refuse "")]) fc ∧ cc = cs := by
    rcases hst.fr with ⟨h, _, h2⟩ | ⟨_, _, _, h⟩
    · exact ⟨h, h2⟩
    · exfalso
      cases h with
      | cons _ _ _ h => cases h
  obtain ⟨hfr, rfl⟩ := hfr
  have htodo : fc.todo = [.code (cut n c).2] := by
    obtain ⟨its, tl, tc, t1, t2, _, hT⟩ := hfr.todo
    have t1 : [Item.code (.refuse "")] = its ++ tl := t1
    cases hT with
    | here =>
      cases its with
      | nil => exact t2
      | cons x its => cases its <;> simp at t1
    | seq _ _ =>
      cases its with
      | nil => simp at t1
      | cons x its => cases its <;> simp at t1
  have hm : fc.mode = .run := by
    rcases hfr.mode with ⟨_, h⟩ | ⟨h, _⟩
    · exact h
    · cases h
  refine ⟨ρ, a', wl, ?_, hp, hfr.tmps.2, hA.left hal h₁⟩
  have e : fc = (base f).at ⟨a'.tmps.map (ren ρ), []⟩ [.code (cut n c).2] := by
    have h1 := hfr.fn
    have h2 := hfr.tmps.1
    have h3 := hfr.defc
    have h4 := hfr.kindc
    have h5 := hfr.roc
    obtain ⟨q1, q2, q3, q4, q5, q6, q7⟩ := fc
    simp only at h1 h2 h3 h4 h5 htodo hm
    subst h1; subst h2; subst h3; subst h4; subst h5; subst htodo; subst hm
    rfl
  rw [e]
end
end Go.Proofs.Ytmmolicodlmlkaa.Rel
namespace Go.Proofs.Ytmmolicodlmlkaa.Rel
open Go.Conc (G base)
set_option linter.unusedVariables false

/-- The lone walk through this code comes to the function's return. -/
def Ends (P : Program) (f : FuncId) (c : Code) (Post : Value → World → Prop) (a : Act) (w : World) : Prop :=
  c.wp P (fun e a' w' => (e = .normal ∨ e = .ret) ∧ a'.defers = [] ∧ ∃ fn v, P.funcs[f]? = some fn ∧ (results fn a'.tmps).run P w' = .ok v w' ∧ Post v w') a w
section
variable {P : Program} {fs : FuncId → Bool} {v : World} {Rd S : Nat → Prop} {cs : List Frame} {main : Bool}
end
end Go.Proofs.Ytmmolicodlmlkaa.Rel
