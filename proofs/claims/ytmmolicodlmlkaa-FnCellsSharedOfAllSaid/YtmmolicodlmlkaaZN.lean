/-
  Parts of the proof: impl.CellsShared from behind sharedWork to its return, alone. impl.CellsShared at the machine: called beside leavers, and come back: with the cells of all lists, or with nothing. The reference's CellsShared, by contract: the whole. FnCellsSharedOfAll, alone: its gate. FnCellsSharedOfAll, alone: its pieces about the program's two calls. FnCellsSharedOfAll from its start, at the machine: one good run. A slice of slices of integers that came in, opened: it may be looked at, and so may its rows; an empty row may lie anywhere. No condition.
-/
import Derived.Test.YtmmolicodlmlkaaZM
import Derived.Test.YtmmolicodlmlkaaZI
import Derived.Test.YtmmolicodlmlkaaZK
import Derived.Test.YtmmolicodlmlkaaZL
import Derived.Deep.Slices
import Derived.Test.YtmmolicodlmlkaaZG
set_option linter.unusedVariables false
set_option linter.unusedSimpArgs false
namespace Go.Proofs.Ytmmolicodlmlkaa.Ph
open Go.Conc Go.ConcN Go.RowKit
open Go.Proofs.Ytmmolicodlmlkaa.Rel
set_option linter.unusedVariables false
set_option linter.unusedSimpArgs false

noncomputable def csTail : Code := match Try.f28.body with | some (.seq _ (.seq _ (.seq _ (.seq _ (.seq _ c))))) => c | _ => .skip
abbrev yesCs (wd dp s g n : Nat) : Value := .tuple #[.agg #[.int .i64 wd, .int .i64 dp, .int .i64 s, .slice (some ⟨g, 0, none⟩) n n], .bool true]
theorem cs_results {arr : Array Value} {w : World} {br : Nat} {b : Bool} {v0 v1 v2 v3 : Value} (h10 : arr[10]? = some (ptrB br)) (h11 : arr[11]? = some (.bool b)) (d0 : w.cell? ⟨br, 0, none⟩ = some v0) (d1 : w.cell? ⟨br, 1, none⟩ = some v1) (d2 : w.cell? ⟨br, 2, none⟩ = some v2) (d3 : w.cell? ⟨br, 3, none⟩ = some v3) :
    (results Try.f28 arr).run Try.prog w = .ok (.tuple #[.agg #[v0, v1, v2, v3], .bool b]) w := by
  simp [results, Try.results28, go_sem, h10, h11, d0, d1, d2, d3]
set_option maxRecDepth 100000 in
set_option maxHeartbeats 8000000 in
theorem cs_ends (T : Nat → Value) (kw : Int) (wd dp s n nn C g bl br bo bm : Nat) (xss : List (List Int)) (R cc : Nat → Nat) (v0 v1 v2 v3 : Value) (w : World) (hnn : nn = xss.length) (hn16 : nn ≤ 16) (hn : n = wd * dp) (hn1 : n ≤ 384) (hd2 : dp ≤ 6) (hkeys : ∀ x ∈ xss, keysQ x = true)
    (hm : w.cell? ⟨bm, 0, none⟩ = some (.slice (some ⟨C, 0, none⟩) nn nn)) (h4 : ∀ o, o < nn → Four w C o wd dp s n (R o) (cc o) ∧ RdL (Value.int .i64) w (some ⟨R o, 0, none⟩) (madeC wd s dp xss o) ∧ R o ≠ g) (hbo : Blk w bo 37 [.int .i64 wd, .int .i64 dp, .int .i64 s, .slice (some ⟨g, 0, none⟩) n n])
    (hg : Blk w g 2 ((List.replicate n (0 : Int)).map (Value.int .i64))) (hbr : Blk w br 37 [v0, v1, v2, v3]) (n1 : C ≠ g) (n2 : bo ≠ g) (n3 : bm ≠ g) (n4 : br ≠ g) (n5 : bo ≠ br) :
    Rel.Ends Try.prog 28 csTail (fun u w' => u = yesCs wd dp s g n ∧ Blk w' g 2 ((sumC wd s dp xss nn).map (Value.int .i64))) ⟨arrCS T kw bl br bo bm, []⟩ w := by
  have H4 := hid h4
  have HBO := hid hbo
  have HBR := hid hbr
  have HN := hid hn
  have HM := hid hm
  have HK : Hid (∀ x ∈ xss, x.length ≤ 256) := fun x hx => (keysQ_iff (hkeys x hx)).1
  have HG : Hid (OwnE [] w 0 2 (some ⟨g, 0, none⟩) (sumC wd s dp xss 0)) := ⟨g, rfl, Nat.zero_le _, by
    rw [List.append_nil]
    show Blk w g 2 ((List.replicate (wd * dp) (0 : Int)).map (Value.int .i64))
    rw [← hn]; exact hg⟩
  clear h4 hbo hbr hn hg hkeys hnn
  have hgl : g < w.heap.size := by obtain ⟨x, e1, _, e3⟩ := HG.out; cases e1; exact e3.lt
  have hbrl := HBR.out.lt
  have hbol := HBO.out.lt
  simp only [csTail, Try.f28, Rel.Ends]
  go_wp2
  go_loopw [58] (fun j wr => ∃ k : Nat, k ≤ nn ∧ j = .int .i64 k ∧ Hid (OwnE [] wr 0 2 (some ⟨g, 0, none⟩) (sumC wd s dp xss k)) ∧ Hid (TouchAll w wr [(some ⟨g, 0, none⟩, n)])) (fun j _ => nn - (intOf j).toNat)
  case atStart => exact ⟨0, Nat.zero_le _, rfl, HG, touch_all_refl⟩
  case round =>
    obtain ⟨k, hkr, rfl, hok, hT⟩ := hrel
    have Q3 := hid (HBO.out.touches hT.out (by omega))
    have R3 := hid (HBR.out.touches hT.out (by omega))
    have hgr : g < wr.heap.size := by have := hT.out.size; omega
    have hsr := hT.out.size
    clear hm
    by_cases hlt : k < nn
    · have hj : (k : Int) < (nn : Int) := by omega
      obtain ⟨hf4, hrd, hRg⟩ := H4.out k hlt
      obtain ⟨c0, c1, c2, c3⟩ := hf4
      rw [Nat.mul_comm] at c0 c1 c2 c3
      have z0 := cell_touches c0 hT.out (by simp; omega)
      have z1 := cell_touches c1 hT.out (by simp; omega)
      have z2 := cell_touches c2 hT.out (by simp; omega)
      have z3 := cell_touches c3 hT.out (by simp; omega)
      have HRD := hid hrd
      have hlS := sumC_length wd s dp xss k
      have hlM := madeC_length wd s dp xss k
      rw [← HN.out] at hlS hlM
      have hbS := hid (sumC_bound (wd := wd) (s := s) (xss := xss) hd2 HK.out k)
      have hbM := hid (madeC_bound (wd := wd) (s := s) (xss := xss) (o := k) hd2 HK.out)
      have hS1 : Hid (sumC wd s dp xss (k + 1) = addL (sumC wd s dp xss k) (madeC wd s dp xss k)) := rfl
      generalize sumC wd s dp xss k = y at hok hlS hbS hS1
      generalize madeC wd s dp xss k = z at HRD hlM hbM hS1
      have HLS := hid hlS
      have HLM := hid hlM
      clear c0 c1 c2 c3 hrd hlS hlM
      go_wp2
      generalize wr = wr0 at *
      clear wr
      have O3 := hid (hok.out.below (below_a1 wr0 (.cells #[.int .i64 wd, .int .i64 dp, .int .i64 s, .slice (some ⟨R k, 0, none⟩) n (cc k)] 37)))
      have Q4 := hid (Q3.out.alloc (.cells #[.int .i64 wd, .int .i64 dp, .int .i64 s, .slice (some ⟨R k, 0, none⟩) n (cc k)] 37))
      have T3 : Hid (TouchAll w (wr0.alloc (.cells #[.int .i64 wd, .int .i64 dp, .int .i64 s, .slice (some ⟨R k, 0, none⟩) n (cc k)] 37)) [(some ⟨g, 0, none⟩, n)]) := touch_all2 hT.out (TouchAll.alloc _ _ _)
      have hRr := hRg
      clear hok hT Q3 R3 z0 z1 z2 z3
      go_loopw [65] (fun j wr => ∃ m : Nat, m ≤ n ∧ j = .int .i64 m ∧ Hid (OwnE [] wr 0 2 (some ⟨g, 0, none⟩) (fillUp m (addL y z) y)) ∧ Hid (Touch (wr0.alloc (.cells #[.int .i64 wd, .int .i64 dp, .int .i64 s, .slice (some ⟨R k, 0, none⟩) n (cc k)] 37)) wr (some ⟨g, 0, none⟩) n)) (fun j _ => n - (intOf j).toNat)
      case atStart => exact ⟨0, Nat.zero_le _, rfl, by rw [fillUp_zero]; exact O3, Touch.refl⟩
      case round =>
        obtain ⟨m, hmr, rfl, hom, hTm⟩ := hrel
        have hls := HLS.out
        have hlm := HLM.out
        by_cases hlm' : m < n
        · have him : (m : Int) < (n : Int) := by omega
          have him0 : (0 : Int) ≤ (m : Int) := by omega
          have hTA : TouchAll w wr [(some ⟨g, 0, none⟩, n)] := touch_all2 T3.out (TouchAll.of_touch hTm.out)
          obtain ⟨b3, o3, p, hA3, hcp0, hpk⟩ := HRD.out.at_ (k := m) (by omega)
          injection hA3 with hA3
          injection hA3 with hA3 hA4
          subst hA3; subst hA4
          have hcp := cell_touches hcp0 hTA (by simp; omega)
          rw [Nat.zero_add] at hcp
          clear hcp0
          have hfl' : (fillUp m (addL y z) y).length = y.length := fillUp_length (by rw [addL_length (by omega)]; omega) (by omega)
          obtain ⟨g2, u, hg', hgB', hcy, hfy, hym, hput⟩ := hom.out.put (j := m) (by omega)
          injection hg' with hg'; injection hg' with hg'
          subst hg'
          have hxu : Hid (y[m]? = some u) := by
            have := hym.out
            rw [fillUp_at (by rw [addL_length (by omega)]; omega)] at this
            exact this
          have hz : Hid ((addL y z)[m]? = some (u + p)) := zipI_at (f := fun a b => a + b) hxu hpk
          have hu := hbS.out u (List.mem_of_getElem? hxu.out)
          have hv := hbM.out p (List.mem_of_getElem? hpk.out)
          have hO2 : Hid (OwnE [] (wr.setCell ⟨g, m, none⟩ (.int .i64 (u + p))) 0 2 (some ⟨g, 0, none⟩) (fillUp (m + 1) (addL y z) y)) := by
            have h := hput (u + p)
            rw [fillUp_step hz (by omega)] at h
            exact h
          have hT2 := hid (hTm.out.set_ (by omega) m (.int .i64 (u + p)))
          have e1 : IntKind.i64.wrap (u + p) = u + p := by rw [IntKind.wrap_i64]; omega
          obtain ⟨q0, q1, q2, q3⟩ := (Q4.out.touch hTm.out (by omega)).cells4
          clear hput hgB' hym hls hlm hu hv q0 q1 q2 hfl' hTA
          go_wp2
          exact ⟨⟨m + 1, by omega, by go_num, hO2, hT2⟩, by simp [intOf]; omega⟩
        · have him : ¬ (m : Int) < (n : Int) := by omega
          have he := hom.out
          rw [show m = n by omega, fillUp_all (by rw [addL_length (by omega)]; exact hls) hls, ← hS1.out] at he
          have O4 := hid he
          have T4 := hid (touch_all2 T3.out (TouchAll.of_touch hTm.out))
          clear he hls hlm
          go_wp2
          exact ⟨⟨k + 1, by omega, by go_num, O4, T4⟩, by simp [intOf]; omega⟩
    · have hj : ¬ (k : Int) < (nn : Int) := by omega
      obtain rfl : k = nn := by omega
      obtain ⟨q0, q1, q2, q3⟩ := Q3.out.cells4
      obtain ⟨d0, d1, d2, d3⟩ := R3.out.cells4
      have f0 := R3.out.frozen 0
      have f1 := R3.out.frozen 1
      have f2 := R3.out.frozen 2
      have f3 := R3.out.frozen 3
      have n5' := Ne.symm n5
      go_wp2
      have hB0 : Blk ((((wr.setCell ⟨br, 0, none⟩ (.int .i64 wd)).setCell ⟨br, 1, none⟩ (.int .i64 dp)).setCell ⟨br, 2, none⟩ (.int .i64 s)).setCell ⟨br, 3, none⟩ (.slice (some ⟨g, 0, none⟩) n n)) br 37 [.int .i64 wd, .int .i64 dp, .int .i64 s, .slice (some ⟨g, 0, none⟩) n n] :=
        (((R3.out.set_ 0 (.int .i64 wd)).set_ 1 (.int .i64 dp)).set_ 2 (.int .i64 s)).set_ 3 (.slice (some ⟨g, 0, none⟩) n n)
      obtain ⟨r0, r1, r2, r3⟩ := hB0.cells4
      refine ⟨yesCs wd dp s g n, cs_results (b := true) rfl rfl r0 r1 r2 r3, rfl, ?_⟩
      obtain ⟨g2, e1, _, e3⟩ := hok.out
      injection e1 with e1
      injection e1 with e1
      subst e1
      rw [List.append_nil] at e3
      exact (((e3.far (Ne.symm n4) _).far (Ne.symm n4) _).far (Ne.symm n4) _).far (Ne.symm n4) _
end Go.Proofs.Ytmmolicodlmlkaa.Ph
namespace Go.Proofs.Ytmmolicodlmlkaa.Ph
open Go.Conc Go.ConcN Go.RowKit Go.Conc.Lib Go.ConcR.Gen Go.ConcN.Gen
open Go.ConcR (KK wgBlock WgAt stA smA rd wr mk DC0 Payload)
open Go.Proofs.Ytmmolicodlmlkaa.Rel
set_option linter.unusedVariables false
set_option linter.unusedSimpArgs false

set_option maxRecDepth 100000 in
theorem abs_arrCS (Fs : Fns) (B : Nat) (T : Nat → Value) (kw : Int) (bl br bo bm : Nat) (h1 : okV Fs B (ptrB bl) = true) (h2 : okV Fs B (ptrB br) = true) (h3 : okV Fs B (ptrB bo) = true) (h4 : okV Fs B (ptrB bm) = true) :
    absA Fs B ⟨arrCS T kw bl br bo bm, []⟩ = ⟨arrCS (fun i => absV Fs B (T i)) kw bl br bo bm, []⟩ := by
  unfold absA arrCS
  simp only [List.map_toArray, List.map_cons, List.map_nil]
  rw [absV_same _ h1, absV_same _ h2, absV_same _ h3, absV_same _ h4, absV_same (.int .i64 kw) (by simp), absV_same (.bool false) (by simp)]
theorem cp_put (T : Nat → Value) (kw : Int) (bl br bo bm : Nat) : Act.put ⟨arrCS T kw bl br bo bm, []⟩ ((cp5[4]?).bind (·.dst)) (.tuple #[]) = ⟨arrCS (fun i => if i = 55 then .tuple #[] else T i) kw bl br bo bm, []⟩ := by kernel_rfl
theorem cpTail_eq : cpTail = csTail := rfl
def ctFs : FuncId → Bool := fun _ => false
theorem ctFs_ok : ∀ f, ctFs f = true → ∃ fn, Try.prog.funcs[f]? = some fn ∧ fnOk Try.prog ctFs fn = true := fun f h => by cases h
theorem cpTail_ok : codeOk Try.prog ⟨ctFs, fun _ => false, fun _ => false, fun _ => false⟩ cpTail = true := by kernel_rfl
theorem cells_stay {w w₁ : World} {C wd dp s n : Nat} {xss : List (List Int)} {D S S' : Nat → Prop} (h : CellsIn C wd dp s n xss D S w) (hS : ∀ b, S b → w₁.heap[b]? = w.heap[b]?) (hC : w₁.heap[C]? = w.heap[C]?) (hSS : ∀ b, S b → S' b) : CellsIn C wd dp s n xss D S' w₁ :=
  h.stay (mine := fun _ => True) hS (.of_block hC) (fun _ _ _ _ => trivial) hSS
theorem cells_join {C wd dp s n k nn : Nat} {xss : List (List Int)} {Sg : Nat → Nat → Prop} {S : Nat → Prop} {w : World} (hk : 1 ≤ k) (h : ∀ j, j < k → CellsIn C wd dp s n xss (fun o => o < nn ∧ o % k = j) (Sg j) w) (hd : ∀ i j b, i < k → j < k → Sg i b → Sg j b → i = j) (hS : ∀ i b, i < k → Sg i b → S b) :
    CellsIn C wd dp s n xss (fun o => o < nn) S w := by
  have hm : ∀ o : Nat, o % k < k := fun o => Nat.mod_lt o (by omega)
  refine ⟨fun o => Classical.choose (h (o % k) (hm o)) o, fun o => Classical.choose (Classical.choose_spec (h (o % k) (hm o))) o, fun o ho => ?_, fun o o' ho ho' hb => ?_⟩
  · obtain ⟨q1, q2, q3, q4⟩ := (Classical.choose_spec (Classical.choose_spec (h (o % k) (hm o)))).1 o ⟨ho, rfl⟩
    exact ⟨q1, q2, hS _ _ (hm o) q3, q4⟩
  · have p1 := ((Classical.choose_spec (Classical.choose_spec (h (o % k) (hm o)))).1 o ⟨ho, rfl⟩).2.2.1
    have p2 := ((Classical.choose_spec (Classical.choose_spec (h (o' % k) (hm o')))).1 o' ⟨ho', rfl⟩).2.2.1
    simp only at hb
    have e := hd _ _ _ (hm o) (hm o') p1 (hb ▸ p2)
    have key : ∀ j (hj : j < k), j = o % k → o' % k = j → Classical.choose (h (o' % k) (hm o')) o' = Classical.choose (h j hj) o' := by
      intro j hj _ e2
      subst e2
      rfl
    have hb2 := hb.trans (key _ (hm o) rfl e.symm)
    exact (Classical.choose_spec (Classical.choose_spec (h (o % k) (hm o)))).2 o o' ⟨ho, rfl⟩ ⟨ho', e.symm⟩ hb2
section
variable {F : Nat → Prop} {w : World} {wd dp s n g C bl br bo bm : Nat} {xss : List (List Int)} {kw : Int} {cs : List Frame} {b₀ : Frame} {a₀ : Act} {ops₀ : Array Oper} {i₀ : Nat} {rest₀ : List Nat} {k₀ : List Item} {T : Nat → Value} {cells : Array Value} {v0 v1 v2 v3 : Int} {Sc : Nat → Prop} {te : TypeId}
set_option maxRecDepth 100000 in
/-- From behind sharedWork to the return. -/
theorem cp_last (hF : ∀ b, F b → b < w.heap.size) (hG : Try.prog.globals.size ≤ w.heap.size) (hn16 : xss.length ≤ 16) (hn : n = wd * dp) (hn1 : n ≤ 384) (hd2 : dp ≤ 6) (hkeys : ∀ x ∈ xss, keysQ x = true)
    (fm : F bm) (qm : w.heap[bm]? = some (.cells #[.slice (some ⟨C, 0, none⟩) xss.length xss.length] 78 (0, 0))) (fC : F C) (qC : w.heap[C]? = some (.cells cells te (0, 0))) (hR : CellsIn C wd dp s n xss (fun o => o < xss.length) Sc w) (hSc : ∀ b, Sc b → F b ∧ b ≠ g ∧ b ≠ br ∧ b ≠ bo)
    (fo : F bo) (qo : w.heap[bo]? = some (.cells #[.int .i64 wd, .int .i64 dp, .int .i64 s, .slice (some ⟨g, 0, none⟩) n n] 37 (0, 0))) (fg : F g) (qg : Blk w g 2 ((List.replicate n (0 : Int)).map (Value.int .i64)))
    (fr : F br) (qr : w.heap[br]? = some (.cells #[.int .i64 v0, .int .i64 v1, .int .i64 v2, .slice none 0 0] 37 (0, 0))) (fl : F bl) (ql : plainO w.heap[bl]? = true)
    (n1 : C ≠ g) (n2 : bo ≠ g) (n3 : bm ≠ g) (n4 : br ≠ g) (n5 : bo ≠ br) (n6 : bm ≠ br) (n7 : bm ≠ bo) (n8 : C ≠ br) (n9 : C ≠ bo) :
    GL Try.prog (fun t gg w' => gg = G (b₀.at (a₀.put ((ops₀[i₀]?).bind (·.dst)) (yesCs wd dp s g n)) (.inRegion ops₀ rest₀ :: k₀)) cs ∧ (∀ y, F y → t y) ∧ (∀ y, t y → y < w'.heap.size) ∧ w.heap.size ≤ w'.heap.size ∧ (∀ y, F y → ¬ (y = g ∨ y = br ∨ y = bo) → w'.heap[y]? = w.heap[y]?) ∧ TW w w' ∧
      w'.heap[g]? = some (.cells ((sumC wd s dp xss xss.length).map (Value.int .i64)).toArray 2 (0, 0))) F
      (G ((base 28).at (Act.put ⟨arrCS T kw bl br bo bm, []⟩ ((cp5[4]?).bind (·.dst)) (.tuple #[])) [.inRegion cp5 [], .code cpTail]) (b₀.at a₀ (.inRegion ops₀ (i₀ :: rest₀) :: k₀) :: cs)) w := by
  rw [cp_put]
  generalize (fun i => if i = 55 then Value.tuple #[] else T i) = T'
  let W : Nat → Prop := fun y => y = g ∨ y = br ∨ y = bo
  have hsub : ∀ y, W y → F y := fun y hy => by rcases hy with rfl | rfl | rfl <;> assumption
  have okB : ∀ y, F y → plainO w.heap[y]? = true → okV (fnsQ ctFs w F W) w.heap.size (ptrB y) = true := fun y h1 h2 => by
    rw [okV_pointer]; exact fnsQ_ok hF h1 h2
  have pm : plainO w.heap[bm]? = true := by rw [qm]; rfl
  have pC : plainO w.heap[C]? = true := by rw [qC]; rfl
  have po : plainO w.heap[bo]? = true := by rw [qo]; rfl
  have pg : plainO w.heap[g]? = true := by rw [show w.heap[g]? = _ from qg]; rfl
  have pr : plainO w.heap[br]? = true := by rw [qr]; rfl
  have okg : okV (fnsQ ctFs w F W) w.heap.size (.slice (some ⟨g, 0, none⟩) n n) = true := by rw [okV_slice]; exact fnsQ_ok hF fg pg
  obtain ⟨R, cc, hR1, hR2⟩ := hR
  have hl : ∀ τ, Rel.Ends Try.prog 28 cpTail (fun u w' => u = yesCs wd dp s g n ∧ Blk w' g 2 ((sumC wd s dp xss xss.length).map (Value.int .i64))) (absA (fnsQ ctFs w F W) w.heap.size ⟨arrCS T' kw bl br bo bm, []⟩) { loneW (fnsQ ctFs w F W) w with tape := τ, drawn := 0 } := by
    intro τ
    rw [abs_arrCS _ _ _ _ _ _ _ _ (okB _ fl ql) (okB _ fr pr) (okB _ fo po) (okB _ fm pm), cpTail_eq]
    refine cs_ends _ kw wd dp s n xss.length C g bl br bo bm xss R cc (.int .i64 v0) (.int .i64 v1) (.int .i64 v2) (.slice none 0 0) _ rfl hn16 hn hn1 hd2 hkeys ?_ (fun o ho => ?_) ?_ ?_ ?_ n1 n2 n3 n4 n5
    · refine loneW_at (a := ⟨bm, 0, none⟩) (by simp [World.cell?, qm]) rfl (fnsQ_old (hF _ fm) fm pm) (fnsQ_rd (hF _ fm) (by rintro (h | h | h); exact n3 h; exact n6 h; exact n7 h)) ?_
      rw [okV_slice]; exact fnsQ_ok hF fC pC
    · obtain ⟨⟨z0, z1, z2, z3⟩, q2, q3, q4⟩ := hR1 o ho
      obtain ⟨e1, e2, e3, e4⟩ := hSc _ q3
      have hwC : (fnsQ ctFs w F W).wr C = false := fnsQ_rd (hF _ fC) (by rintro (h | h | h); exact n1 h; exact n8 h; exact n9 h)
      have hwR : (fnsQ ctFs w F W).wr (R o) = false := fnsQ_rd (hF _ e1) (by rintro (h | h | h); exact e2 h; exact e3 h; exact e4 h)
      have at_ : ∀ p u, w.cell? ⟨C, p, none⟩ = some u → okV (fnsQ ctFs w F W) w.heap.size u = true → (loneW (fnsQ ctFs w F W) w).cell? ⟨C, p, none⟩ = some u := fun p u h1 h2 => loneW_at (a := ⟨C, p, none⟩) h1 rfl (fnsQ_old (hF _ fC) fC pC) hwC h2
      exact ⟨⟨at_ _ _ z0 (by simp), at_ _ _ z1 (by simp), at_ _ _ z2 (by simp), at_ _ _ z3 (by rw [okV_slice]; exact fnsQ_ok hF e1 q4.plain)⟩,
        rdl_look q2.rd (fun _ => by simp) fun b o' _ e => by injection e with e; injection e with e; subst e; exact ⟨rfl, fnsQ_old (hF _ e1) e1 q4.plain, hwR⟩, e2⟩
    · exact loneW_own qo rfl (fnsQ_old (hF _ fo) fo po) (fnsQ_wr (hF _ fo) (.inr (.inr rfl))) (fun z hz => by
        simp at hz
        rcases hz with rfl | rfl | rfl | rfl
        · simp
        · simp
        · simp
        · exact okg)
    · exact loneW_own qg rfl (fnsQ_old (hF _ fg) fg pg) (fnsQ_wr (hF _ fg) (.inl rfl)) (fun z hz => by simp at hz; rw [hz.2]; simp)
    · exact loneW_own qr rfl (fnsQ_old (hF _ fr) fr pr) (fnsQ_wr (hF _ fr) (.inr (.inl rfl))) (fun z hz => by
        simp at hz
        rcases hz with rfl | rfl | rfl | rfl <;> simp)
  have h1 := gl_back (b₀ := b₀) (a₀ := a₀) (ops₀ := ops₀) (i₀ := i₀) (rest₀ := rest₀) (k₀ := k₀) (cs := cs) hsub (gl_endM (P := Try.prog) (fs := ctFs) (v := w) (F := F) (W := W) (f := 28) (c := cpTail) (ops := cp5) (rest := []) hsub hF zero_ok hG ctFs_ok Try.func28 cp_results cpTail_ok rfl rfl fun τ => endsM_of (hl τ))
  refine Go1.widen h1 ?_
  rintro t gg w' ⟨s', rfl, ρ, u, wl, rfl, ⟨rfl, hB⟩, hok, hL⟩
  obtain ⟨p1, p2, p3, p4⟩ := left_state hsub hF hL
  have hid := hL.id g (hF _ fg)
  refine ⟨?_, p1, p2, p3, fun y hy hn => p4 y hy hn, ⟨hL.tape, hL.os, hL.output⟩, ?_⟩
  · simp [yesCs, hid]
  · have := (left_blk hL (fnsQ_old (hF _ fg) fg pg) hB).1
    rw [hid] at this
    rw [this]
    congr 2
    exact ints_ren (fun v hv => by simp at hv; obtain ⟨i, _, rfl⟩ := hv; exact ⟨i, rfl⟩)
end
/-- What impl.CellsShared returns. -/
def CellsRes (Shun' : Loc → Prop) (w0 w' : World) (a0 a1 a2 : Int) (xss : List (List Int)) (kw : Int) (v : Value) : Prop :=
  (gateCS a0 a1 a2 xss kw = false ∧ v = noCs) ∨
  (gateCS a0 a1 a2 xss kw = true ∧ ∃ g wd dp s : Nat, a0 = wd ∧ a1 = dp ∧ a2 = s ∧ v = yesCs wd dp s g (wd * dp) ∧ w0.heap.size ≤ g ∧ FreeB Shun' w' g ∧ w'.heap[g]? = some (.cells ((sumC wd s dp xss xss.length).map (Value.int .i64)).toArray 2 (0, 0)))
section
variable {Shun : Loc → Prop} {w : World} {m : Machine} {t : Trace} {a0 a1 a2 : Int} {A : Option Addr} {c : Nat} {xss : List (List Int)} {kw : Int} {cs : List Frame} {b₀ : Frame} {a₀ : Act} {ops₀ : Array Oper} {i₀ : Nat} {rest₀ : List Nat} {k₀ : List Item}
/-- ████ impl.CellsShared, CALLED AND COME BACK. ████ -/
theorem cells_machine (h : At Try.prog Shun (G (Frame.enter Try.prog 28 #[.int .i64 a0, .int .i64 a1, .int .i64 a2, .slice A xss.length c, .int .i64 kw] .normal) (b₀.at a₀ (.inRegion ops₀ (i₀ :: rest₀) :: k₀) :: cs)) w m t)
    (hG : Try.prog.globals.size ≤ w.heap.size) (h0 : W64 a0) (h1 : W64 a1) (h2 : W64 a2) (hx : SSr (FreeB Shun w) w A xss) :
    ∃ K m' t' w' Shun' v, runNT Try.prog K m t = (.next m', t') ∧ At Try.prog Shun' (G (b₀.at (a₀.put ((ops₀[i₀]?).bind (·.dst)) v) (.inRegion ops₀ rest₀ :: k₀)) cs) w' m' t' ∧ Grow Shun w Shun' w' ∧ CellsRes Shun' w w' a0 a1 a2 xss kw v := by
  cases hg : gateCS a0 a1 a2 xss kw with
  | false =>
    obtain ⟨K, m', t', g', w', S', r1, hAt, ⟨rfl, hK⟩, hfree, _⟩ := h.walk (fun S g w d ⟨e, hF⟩ => ⟨e, hF.at⟩) (cp_no (fun b hb => hb.1) hG h0 h1 h2 hx hg)
    exact ⟨K, m', t', w', Shun, _, r1, hAt, hK.grow hfree, .inl ⟨hg, rfl⟩⟩
  | true =>
    have hg0 := hg
    simp only [gateCS, Bool.and_eq_true, decide_eq_true_eq] at hg0
    obtain ⟨⟨⟨⟨g1, g2⟩, g3⟩, g4⟩, g5⟩ := hg0
    obtain ⟨e0, e1, e2⟩ := sidesB_iff g1
    have f0 : 2 ≤ a0 ∧ a0 ≤ 64 := by simpa [Go.Proofs.Ytmmolicodlmlkaa.inB] using e0
    have f1 : 1 ≤ a1 ∧ a1 ≤ 6 := by simpa [Go.Proofs.Ytmmolicodlmlkaa.inB] using e1
    have f2 : 0 ≤ a2 ∧ a2 ≤ 4294967295 := by simpa [Go.Proofs.Ytmmolicodlmlkaa.inB] using e2
    have f4 : 1 ≤ kw ∧ kw ≤ 8 := by simpa [Go.Proofs.Ytmmolicodlmlkaa.inB] using g4
    obtain ⟨wd, rfl⟩ := Int.eq_ofNat_of_zero_le (show 0 ≤ a0 by omega)
    obtain ⟨dp, rfl⟩ := Int.eq_ofNat_of_zero_le (show 0 ≤ a1 by omega)
    obtain ⟨s, rfl⟩ := Int.eq_ofNat_of_zero_le (show 0 ≤ a2 by omega)
    obtain ⟨k, rfl⟩ := Int.eq_ofNat_of_zero_le (show 0 ≤ kw by omega)
    have hkeys : ∀ x ∈ xss, keysQ x = true := fun x hx => List.all_eq_true.1 g5 x hx
    have hn1 : wd * dp ≤ 384 := by
      calc wd * dp ≤ 64 * 6 := Nat.mul_le_mul (by omega) (by omega)
        _ = 384 := rfl
    obtain ⟨K1, m1, t1, gg, w1, S1, r1, hAt1, ⟨T, bl, br, bo, bm, C, g0, cells, hsz, z1, z2, z3, z4, z5, z6, z7, z8, z9, z10, z11, z12, rfl, hK⟩, hfree, _⟩ :=
      h.walk (fun S g w d ⟨T, bl, br, bo, bm, C, g0, cells, q1, q2, q3, q4, q5, q6, q7, q8, q9, q10, q11, q12, q13, q14, q15⟩ => ⟨T, bl, br, bo, bm, C, g0, cells, q1, q2, q3, q4, q5, q6, q7, q8, q9, q10, q11, q12, q13, q14, q15.at⟩) (cp_gl (n := wd * dp) (fun b hb => hb.1) hG h0 h1 h2 hx hg (by simp))
    obtain ⟨ol1, ol2, ol3⟩ := hK.own (bl, #[.slice A xss.length c], 29) (by simp)
    obtain ⟨or1, or2, or3⟩ := hK.own (br, #[.int .i64 0, .int .i64 0, .int .i64 0, .slice none 0 0], 37) (by simp)
    obtain ⟨oo1, oo2, oo3⟩ := hK.own (bo, #[.int .i64 wd, .int .i64 dp, .int .i64 s, .slice (some ⟨g0, 0, none⟩) (wd * dp) (wd * dp)], 37) (by simp)
    obtain ⟨om1, om2, om3⟩ := hK.own (bm, #[.slice (some ⟨C, 0, none⟩) xss.length xss.length], 78) (by simp)
    obtain ⟨oc1, oc2, oc3⟩ := hK.own (C, cells, 37) (by simp)
    obtain ⟨og1, og2, og3⟩ := hK.own (g0, ((List.replicate (wd * dp) (0 : Int)).map (Value.int .i64)).toArray, 2) (by simp)
    simp only at ol1 ol2 ol3 or1 or2 or3 oo1 oo2 oo3 om1 om2 om3 oc1 oc2 oc3 og1 og2 og3
    have hgrow1 := hK.grow hfree
    have neC : ∀ y, FreeB Shun w y → y ≠ C := fun y hy e => by have := hy.1; omega
    have nmo : bm ≠ bo := fun e => by rw [e, oo3] at om3; simp at om3
    have hx1 : SSr (fun b => FreeB Shun w1 b ∧ b ≠ C) w1 A xss := hx.stay fun y hy => ⟨⟨(hgrow1.old y hy).1, neC y hy⟩, (hgrow1.old y hy).2⟩
    have I : CellIn Shun w1 wd dp s (wd * dp) g0 A c xss C bo bl bm :=
      { glob := Nat.le_trans hG hK.size, w1 := by omega, w2 := by omega, d1 := by omega, d2 := by omega, s32 := by omega, hn := rfl, l16 := by omega, keys := hkeys, lists := hx1,
        hg := ⟨hfree _ og1, z5, og3⟩, ho := ⟨hfree _ oo1, z3, _, oo3⟩, hl := ⟨hfree _ ol1, z1, _, ol3⟩, hm := ⟨hfree _ om1, z4, _, om3⟩, hC := ⟨_, _, oc3, hsz⟩ }
    have hs1 := hAt1.shun
    obtain ⟨K2, m2, t2, w2, Wg, Sg, r2, hAt2, hWg, hU, hsz2, hfact, hSg, hdis⟩ := shared_machine hAt1 (hfree _ oc1) (mine := fun j e => e / 4 % k = j) (J := fun j i S w => JC Shun C w1 wd dp s (wd * dp) xss k j i S w) (Fact := fun j S w => FactC w1.heap.size C wd dp s (wd * dp) xss k j S w) (fun i k o h1 h2 => h1.symm.trans h2) (fun i S w' hF => hF.1)
      (fun Wg b1 b2 b3 hWg => cs_task I ⟨by omega, by omega⟩ hWg b1 b2 b3)
    have free2 : ∀ b, b < w2.heap.size → b ≠ Wg → (b < w1.heap.size → FreeB Shun w1 b) → FreeB (fun l => Shun l ∨ ShN Wg l) w2 b := fun b h1 h2 h3 => free_low hs1 h1 h2 h3
    have free12 : ∀ y, FreeB Shun w1 y → FreeB (fun l => Shun l ∨ ShN Wg l) w2 y := fun y hy => free2 y (by have := hy.1; omega) (by have := hy.1; omega) fun _ => hy
    obtain ⟨cells', hC1, hC2, _⟩ := hU.2.2 _ _ _ oc3
    have hR2 : CellsIn C wd dp s (wd * dp) xss (fun o => o < xss.length) (fun b => w1.heap.size ≤ b ∧ FreeB (fun l => Shun l ∨ ShN Wg l) w2 b) w2 :=
      cells_join (k := k) (by omega) (fun j hj => (hfact j hj).2) hdis fun i b hi hb => by
        obtain ⟨q1, q2, q3, q4⟩ := hSg i b hi hb
        exact ⟨q1, free2 b q2 q3 fun h => by omega⟩
    have lt1 := (hfree _ og1).1
    have lt2 := (hfree _ or1).1
    have lt3 := (hfree _ oo1).1
    obtain ⟨K3, m3, t3, gg, w3, S3, r3, hAt3, ⟨rfl, y1, y2, y3, y4, y5, y6⟩, hfree3, _⟩ := hAt2.walk (fun S g w d h => h) (cp_last (wd := wd) (dp := dp) (s := s) (n := wd * dp) (g := g0) (C := C) (bl := bl) (br := br) (bo := bo) (bm := bm) (xss := xss) (F := FreeB (fun l => Shun l ∨ ShN Wg l) w2) (T := T) (kw := k)
      (Sc := fun b => w1.heap.size ≤ b ∧ FreeB (fun l => Shun l ∨ ShN Wg l) w2 b) (fun b hb => hb.1) (by have := hK.size; omega) (by omega) rfl hn1 (by omega) hkeys (free12 _ (hfree _ om1)) ((hU.2.1 bm (hfree _ om1) z4).trans om3) (free12 _ (hfree _ oc1)) hC1 hR2
      (fun b hb => ⟨hb.2, by have := hb.1; omega, by have := hb.1; omega, by have := hb.1; omega⟩) (free12 _ (hfree _ oo1)) ((hU.2.1 bo (hfree _ oo1) z3).trans oo3) (free12 _ (hfree _ og1)) ((hU.2.1 g0 (hfree _ og1) z5).trans og3) (free12 _ (hfree _ or1)) ((hU.2.1 br (hfree _ or1) z2).trans or3)
      (free12 _ (hfree _ ol1)) (by rw [(hU.2.1 bl (hfree _ ol1) z1), ol3]; rfl) (Ne.symm z5) z8 z9 z7 z10 z11 nmo (Ne.symm z2) (Ne.symm z3))
    have hgrow : Grow Shun w (fun l => Shun l ∨ ShN Wg l) w3 := by
      refine ⟨y5.1.trans (hU.1.1.trans hK.tape), y5.2.1.trans (hU.1.2.1.trans hK.os), y5.2.2.trans (hU.1.2.2.trans hK.output), by have := hK.size; omega, fun y hy => ?_⟩
      have h1 := hgrow1.old y hy
      have hyw := hy.1
      have hne : ¬ (y = g0 ∨ y = br ∨ y = bo) := by
        rintro (h | h | h) <;> omega
      exact ⟨hfree3 _ (y1 y (free12 y h1.1)), (y4 y (free12 y h1.1) hne).trans ((hU.2.1 y h1.1 (neC y hy)).trans h1.2)⟩
    exact ⟨K1 + (K2 + K3), m3, t3, w3, _, _, run_trans r1 (run_trans r2 r3), hAt3, hgrow, .inr ⟨hg, g0, wd, dp, s, rfl, rfl, rfl, rfl, og2, hfree3 _ (y1 _ (free12 _ (hfree _ og1))), y6⟩⟩
end
end Go.Proofs.Ytmmolicodlmlkaa.Ph
namespace Go.Proofs.Ytmmolicodlmlkaa
open Go.RowKit
open Go.Proofs.Ytmmolicodlmlkaa.Rel (Ints)
set_option linter.unusedVariables false
set_option linter.unusedSimpArgs false

theorem retCs_no {w : World} {a0 a1 a2 : Int} {y : List Int} : ∀ (e : Ending) (w' : World), (e = .returned (.tuple #[.agg #[.int .i64 0, .int .i64 0, .int .i64 0, .slice none 0 0], .bool false]) ∧ Below w.heap.size w w') → RetCs w false a0 a1 a2 y e w' := fun e w' h => ⟨h.2, .inl ⟨rfl, h.1⟩⟩
set_option maxRecDepth 100000 in
set_option maxHeartbeats 8000000 in
theorem sCellsShared_any (a0 a1 a2 : Int) (A : Option Addr) (c : Nat) (xss : List (List Int)) (kw : Int) (w : World) (hx : RdLL w A xss) :
    Calls Try.prog 26 #[.int .i64 a0, .int .i64 a1, .int .i64 a2, .slice A xss.length c, .int .i64 kw] w (RetCs w (gateCS a0 a1 a2 xss kw) a0 a1 a2 (seqC a0.toNat a2.toNat a1.toNat xss xss.length)) := by
  have HX := hid hx
  clear hx
  cases h1 : sidesB a0 a1 a2 with
  | false =>
    rw [show gateCS a0 a1 a2 xss kw = false by simp [gateCS, h1]]
    refine Calls.mono ?_ retCs_no
    go_enter Try.func26, Try.ntmps26
    go_wp2_with (go_at_call 85; refine (l03Sides_any _ _ _ _).mono ?_; rw [h1]; rintro e w' ⟨rfl, rfl⟩)
    refine bodyPost_ret (v := .tuple #[.agg #[.int .i64 0, .int .i64 0, .int .i64 0, .slice none 0 0], .bool false]) (by simp [results, Try.results26, go_sem]) rfl ⟨rfl, below_a1 _ _⟩
  | true =>
  by_cases h2 : (xss.length : Int) < 1
  · rw [show gateCS a0 a1 a2 xss kw = false by simp only [gateCS, h1, Bool.true_and]; rw [decide_eq_false (show ¬ 1 ≤ xss.length by omega)]; simp]
    refine Calls.mono ?_ retCs_no
    go_enter Try.func26, Try.ntmps26
    go_wp2_with (go_at_call 85; refine (l03Sides_any _ _ _ _).mono ?_; rw [h1]; rintro e w' ⟨rfl, rfl⟩)
    refine bodyPost_ret (v := .tuple #[.agg #[.int .i64 0, .int .i64 0, .int .i64 0, .slice none 0 0], .bool false]) (by simp [results, Try.results26, go_sem]) rfl ⟨rfl, below_a1 _ _⟩
  by_cases h3 : (xss.length : Int) > 16
  · rw [show gateCS a0 a1 a2 xss kw = false by simp only [gateCS, h1, Bool.true_and]; rw [decide_eq_false (show ¬ xss.length ≤ 16 by omega)]; simp]
    refine Calls.mono ?_ retCs_no
    go_enter Try.func26, Try.ntmps26
    go_wp2_with (go_at_call 85; refine (l03Sides_any _ _ _ _).mono ?_; rw [h1]; rintro e w' ⟨rfl, rfl⟩)
    refine bodyPost_ret (v := .tuple #[.agg #[.int .i64 0, .int .i64 0, .int .i64 0, .slice none 0 0], .bool false]) (by simp [results, Try.results26, go_sem]) rfl ⟨rfl, below_a1 _ _⟩
  cases h4 : inB kw 1 8 with
  | false =>
    rw [show gateCS a0 a1 a2 xss kw = false by simp [gateCS, h4]]
    refine Calls.mono ?_ retCs_no
    go_enter Try.func26, Try.ntmps26
    go_wp2_with (first | (go_at_call 85; refine (l03Sides_any _ _ _ _).mono ?_; rw [h1]; rintro e w' ⟨rfl, rfl⟩) | (go_at_call 78; refine (l00In_any _ _ _ _).mono ?_; rw [h4]; rintro e w' ⟨rfl, rfl⟩))
    refine bodyPost_ret (v := .tuple #[.agg #[.int .i64 0, .int .i64 0, .int .i64 0, .slice none 0 0], .bool false]) (by simp [results, Try.results26, go_sem]) rfl ⟨rfl, below_a1 _ _⟩
  | true =>
  have hg : gateCS a0 a1 a2 xss kw = xss.all keysQ := by simp only [gateCS, h1, h4, Bool.true_and, Bool.and_true]; rw [decide_eq_true (show 1 ≤ xss.length by omega), decide_eq_true (show xss.length ≤ 16 by omega)]; simp
  rw [hg]
  clear hg
  obtain ⟨e0, e1, e2⟩ := sidesB_iff h1
  obtain ⟨hm0, hm1⟩ := mul_sides e0 e1
  have b0 := inB_iff.1 e0
  have b1 := inB_iff.1 e1
  have b2 := inB_iff.1 e2
  obtain ⟨wd, rfl⟩ := Int.eq_ofNat_of_zero_le (show 0 ≤ a0 by omega)
  obtain ⟨dp, rfl⟩ := Int.eq_ofNat_of_zero_le (show 0 ≤ a1 by omega)
  obtain ⟨s, rfl⟩ := Int.eq_ofNat_of_zero_le (show 0 ≤ a2 by omega)
  simp only [Int.toNat_natCast]
  have hn : ((wd * dp : Nat) : Int) = (wd : Int) * (dp : Int) := by simp
  have HN := hid hn
  have hw1 : 2 ≤ wd := by omega
  have hw2 : wd ≤ 64 := by omega
  have hd1 : 1 ≤ dp := by omega
  have hd2 : dp ≤ 6 := by omega
  have hs : s < 4294967296 := by omega
  obtain ⟨n, hnn⟩ : ∃ n, n = wd * dp := ⟨_, rfl⟩
  have HNN := hid hnn
  rw [← hnn] at hn
  have hn1 : n ≤ 384 := by omega
  have hn0 : 0 < n := by omega
  clear hn hm0 hm1 e0 e1 e2 b0 b1 b2 hnn
  go_enter Try.func26, Try.ntmps26
  go_wp2_with (first | (go_at_call 85; refine (l03Sides_any _ _ _ _).mono ?_; rw [h1]; rintro e w' ⟨rfl, rfl⟩) | (go_at_call 78; refine (l00In_any _ _ _ _).mono ?_; rw [h4]; rintro e w' ⟨rfl, rfl⟩))
  clear h1 h4
  refine (l03New_ex (wd : Int) (dp : Int) (s : Int) n _ (by rw [HNN.out]; exact HN.out) hn1).mono ?_
  rintro e w1 ⟨g, c1, rfl, ho, hb⟩
  have R1 := hid ((Blk.new w 37 [.int .i64 0, .int .i64 0, .int .i64 0, .slice none 0 0]).below hb)
  have S1 := below_call (below_a1 _ _) hb
  have hsz : w.heap.size + 1 ≤ w1.heap.size := by have := hb.size; simpa using this
  have O1 := hid (ho.mono (B' := w.heap.size + 1) (by simp))
  have hgl : g < w1.heap.size := by obtain ⟨g', e1, _, e3⟩ := ho; cases e1; exact e3.lt
  have hgB : w.heap.size + 1 ≤ g := by obtain ⟨g', e1, e2, e3⟩ := ho; cases e1; simpa using e2
  clear ho hb
  go_wp2
  have Q2 := hid (Blk.new w1 37 [.int .i64 wd, .int .i64 dp, .int .i64 s, .slice (some ⟨g, 0, none⟩) n c1])
  have O2 := hid (O1.out.below (below_a1 w1 (.cells #[.int .i64 wd, .int .i64 dp, .int .i64 s, .slice (some ⟨g, 0, none⟩) n c1] 37)))
  have R2 := hid (R1.out.alloc (.cells #[.int .i64 wd, .int .i64 dp, .int .i64 s, .slice (some ⟨g, 0, none⟩) n c1] 37))
  have S2 : Hid (Below w.heap.size w (w1.alloc (.cells #[.int .i64 wd, .int .i64 dp, .int .i64 s, .slice (some ⟨g, 0, none⟩) n c1] 37))) := S1.out.alloc (S1.out.size) _
  clear R1 O1 S1
  have hw2s : (w1.alloc (.cells #[.int .i64 wd, .int .i64 dp, .int .i64 s, .slice (some ⟨g, 0, none⟩) n c1] 37)).heap.size = w1.heap.size + 1 := by simp
  generalize hw2e : w1.alloc (.cells #[.int .i64 wd, .int .i64 dp, .int .i64 s, .slice (some ⟨g, 0, none⟩) n c1] 37) = w2 at Q2 O2 R2 S2 hw2s ⊢
  clear hw2e
  go_loopw [42] (fun i wr => ∃ k : Nat, k ≤ xss.length ∧ i = .int .i64 k ∧ Hid ((xss.take k).all keysQ = true) ∧ Hid (OwnE [] wr (w.heap.size + 1) 2 (some ⟨g, 0, none⟩) (seqC wd s dp xss k)) ∧ Hid (TouchAll w2 wr [(some ⟨g, 0, none⟩, n)])) (fun i _ => xss.length - (intOf i).toNat)
  case atStart => exact ⟨0, Nat.zero_le _, rfl, rfl, by rw [show seqC wd s dp xss 0 = List.replicate n 0 by rw [HNN.out]; rfl]; exact O2, touch_all_refl⟩
  case round =>
    obtain ⟨k, hkr, rfl, hall, hok, hT⟩ := hrel
    have SR : Hid (Below w.heap.size w wr) := ⟨hT.out.os.trans S2.out.os, hT.out.tape.trans S2.out.tape, hT.out.output.trans S2.out.output, by have := hT.out.size; omega, fun b hb' => (hT.out.block b (by omega) (by intro p hp; simp at hp; subst hp; right; intro o e; injection e with e; injection e with e; omega)).trans (S2.out.block b hb')⟩
    have R3 := hid (R2.out.touches hT.out (by omega))
    have Q3 := hid (Q2.out.touches hT.out (by omega))
    obtain ⟨d0, d1, d2, d3⟩ := R3.out.cells4
    have f0 := R3.out.frozen 0
    have f1 := R3.out.frozen 1
    have f2 := R3.out.frozen 2
    have f3 := R3.out.frozen 3
    by_cases hlt : k < xss.length
    · have hi : (k : Int) < (xss.length : Int) := by omega
      obtain ⟨C, o1, R, cc, rfl, hcC, hrd⟩ := HX.out k hlt
      have hCk := cell_grown hcC SR.out
      have HRD := hid (hrd.below SR.out)
      have HKE : Hid (xss[k]? = some xss[k]) := by show _ = _; rw [List.getElem?_eq_getElem hlt]
      have HKD : Hid (xss.getD k [] = xss[k]) := by show _ = _; rw [List.getD_eq_getElem?_getD, HKE.out]; rfl
      have hCl : C < w.heap.size := World.block_lt_of_cell? w _ hcC
      have HRB : Hid (∀ a, R = some a → 0 < xss[k].length → a.block < w.heap.size) := by
        intro a ha h0
        obtain ⟨b, o, hA, hc⟩ := hrd 0 h0
        have := World.block_lt_of_cell? w _ hc
        rw [ha] at hA; injection hA with hA; subst hA; exact this
      clear hcC hrd
      generalize hL : xss[k] = L at hCk HRD HKE HKD HRB
      clear hL
      cases h5 : keysQ L with
      | false =>
        have HF : Hid (xss.all keysQ = false) := by
          show _ = _
          rw [List.all_eq_false]
          exact ⟨L, List.mem_of_getElem? HKE.out, by rw [h5]; simp⟩
        go_wp2_with (go_at_call 72; refine (l02Keys_q R cc L _ HRD.out).mono ?_; rw [h5]; rintro e w' ⟨rfl, rfl⟩)
        refine bodyPost_ret (v := .tuple #[.agg #[.int .i64 0, .int .i64 0, .int .i64 0, .slice none 0 0], .bool false]) (by simp [results, Try.results26, go_sem, d0, d1, d2, d3]) rfl ?_
        refine ⟨?_, .inl ⟨HF.out, rfl⟩⟩
        exact (((SR.out.setCell (by simp) _).setCell (by simp) _).setCell (by simp) _).setCell (by simp) _
      | true =>
        have HA := hid (all_take hall.out HKE.out h5)
        have hkq := keysQ_iff h5
        have hkl := hkq.1
        have HKB := hid hkq.2
        clear hkq
        have hsl : Hid (seqC wd s dp xss (k + 1) = putKs wd s dp (seqC wd s dp xss k) L) := by show _ = _; rw [seqC_succ hlt, HKD.out]
        have hbk : Hid (∀ z ∈ seqC wd s dp xss k, -24576 ≤ z ∧ z ≤ 24576) := by
          intro z hz
          have h256 : ∀ x ∈ xss.take k, x.length ≤ 256 := fun x hx => (keysQ_iff (List.all_eq_true.1 hall.out x hx)).1
          have e : seqC wd s dp (xss.take k) k = seqC wd s dp xss k := by unfold seqC; rw [List.take_take, Nat.min_self]
          have := seqC_bound (wd := wd) (s := s) (dp := dp) (n := k) (xss := xss.take k) hd2 h256 (by simp; omega) z (by rw [e]; exact hz)
          omega
        have hyl : Hid ((seqC wd s dp xss k).length = n) := by show _ = _; rw [seqC_length, HNN.out]
        generalize seqC wd s dp xss k = y at hok hbk hyl hsl
        go_wp2_with (go_at_call 72; refine (l02Keys_q R cc L _ HRD.out).mono ?_; rw [h5]; rintro e w' ⟨rfl, rfl⟩)
        clear h5 d0 d1 d2 d3 f0 f1 f2 f3 R3 Q3
        have hCk0 := hid hCk
        have hok0 := hok
        have hT0 := hT
        clear hok hT hCk
        generalize wr = wr0 at *
        clear wr
        go_loopw [57] (fun i wr => ∃ j : Nat, j ≤ L.length ∧ i = .int .i64 j ∧ Hid (OwnE [] wr (w.heap.size + 1) 2 (some ⟨g, 0, none⟩) (putKs wd s dp y (L.take j))) ∧ Hid (TouchAll wr0 wr [(some ⟨g, 0, none⟩, n)])) (fun i _ => L.length - (intOf i).toNat)
        case atStart => exact ⟨0, Nat.zero_le _, rfl, by rw [List.take_zero]; exact hok0, touch_all_refl⟩
        case round =>
          obtain ⟨j, hjr, rfl, hok, hT⟩ := hrel
          have hCk : wr.cell? ⟨C, o1 + k, none⟩ = some (.slice R L.length cc) := cell_touches hCk0.out hT.out (by simp; omega)
          by_cases hjl : j < L.length
          · have hj : (j : Int) < (L.length : Int) := by omega
            obtain ⟨b, o, v, rfl, hcv0, hvk⟩ := HRD.out.at_ hjl
            have hbl : b < w.heap.size := HRB.out _ rfl (by omega)
            have hcv := cell_touches hcv0 hT.out (by simp; omega)
            have hvb := HKB.out v (List.mem_of_getElem? hvk.out)
            obtain ⟨vn, rfl⟩ := Int.eq_ofNat_of_zero_le hvb.1
            have hvl : vn < 4294967296 := by omega
            have hTA := hid (touch_all2 hT0.out hT.out)
            have Q4 := hid (Q2.out.touches hTA.out (by omega))
            have hyl2 : Hid ((putKs wd s dp y (L.take j)).length = n) := by show _ = _; rw [putKs_length]; exact hyl.out
            have hyb2 : Hid (∀ z ∈ putKs wd s dp y (L.take j), -1000000000000 ≤ z ∧ z ≤ 1000000000000) := by
              intro z hz
              have := putKs_bound (ks := L.take j) hd2 hbk.out z hz
              have h9 : (L.take j).length ≤ 256 := by rw [List.length_take]; omega
              omega
            have hsn : Hid (addAt 1 (putKs wd s dp y (L.take j)) (cellsL wd s vn dp) = putKs wd s dp y (L.take (j + 1))) := by
              show _ = _
              rw [List.take_add_one, hvk.out, Option.toList_some, putKs_snoc, Int.toNat_natCast]
            generalize putKs wd s dp y (L.take j) = y2 at hok hyl2 hyb2 hsn
            clear hcv0 hvb hvk
            go_wp2_with (go_at_call 87; refine (l03Put_ex [] w1.heap.size c1 g wd dp s vn 1 (w.heap.size + 1) y2 _ (by rw [hyl2.out]; exact Q4.out) hok.out (by omega) hw1 hw2 hd2 hvl hs (by rw [hyl2.out]; exact HNN.out) hyb2.out (by omega)).mono ?_; rintro e w' ⟨rfl, ho3, ht3⟩)
            rw [hsn.out] at ho3
            rw [hyl2.out] at ht3
            have O3 := hid ho3
            have T3 := hid (touch_all2 hT.out ht3)
            clear ho3 ht3
            go_wp2
            exact ⟨⟨j + 1, by omega, by go_num, O3, T3⟩, by simp [intOf]; omega⟩
          · have hj : ¬ (j : Int) < (L.length : Int) := by omega
            obtain rfl : j = L.length := by omega
            have O3 : Hid (OwnE [] wr (w.heap.size + 1) 2 (some ⟨g, 0, none⟩) (seqC wd s dp xss (k + 1))) := by
              have := hok.out
              rw [List.take_length] at this
              rw [hsl.out]; exact this
            have T3 := hid (touch_all2 hT0.out hT.out)
            go_wp2
            exact ⟨⟨k + 1, by omega, by go_num, HA, O3, T3⟩, by simp [intOf]; omega⟩
    · have hi : ¬ (k : Int) < (xss.length : Int) := by omega
      obtain rfl : k = xss.length := by omega
      have HG : Hid (xss.all keysQ = true) := by have := hall.out; rwa [List.take_length] at this
      obtain ⟨q0, q1, q2, q3⟩ := Q3.out.cells4
      have hSL : Hid ((seqC wd s dp xss xss.length).length = n) := by show _ = _; rw [seqC_length, HNN.out]
      have hn1' : w.heap.size ≠ w1.heap.size := by omega
      go_wp2
      refine bodyPost_ret (v := .tuple #[.agg #[.int .i64 wd, .int .i64 dp, .int .i64 s, .slice (some ⟨g, 0, none⟩) n c1], .bool true]) (by simp [results, Try.results26, go_sem, d0, d1, d2, d3]) rfl ⟨?_, .inr ⟨HG.out, _, c1, by rw [hSL.out], ?_⟩⟩
      · exact (((SR.out.setCell (by simp) _).setCell (by simp) _).setCell (by simp) _).setCell (by simp) _
      · exact ((((hok.out.setFar (by simp) _).setFar (by simp) _).setFar (by simp) _).setFar (by simp) _).mono (by omega)
end Go.Proofs.Ytmmolicodlmlkaa
namespace Go.Proofs.Ytmmolicodlmlkaa.Ph
open Go.Conc Go.ConcN Go.RowKit
open Go.Proofs.Ytmmolicodlmlkaa.Rel
set_option linter.unusedVariables false
set_option linter.unusedSimpArgs false

abbrev arrZ (T : Nat → Value) (v0 v1 v2 v3 v4 v5 : Value) : Array Value := #[v0, v1, v2, v3, v4, v5, T 6, T 7, T 8, T 9, T 10, T 11, T 12, T 13, T 14, T 15, T 16, T 17, T 18, T 19, T 20, T 21, T 22, T 23, T 24, T 25, T 26, T 27, T 28, T 29, T 30, T 31, T 32, T 33, T 34, T 35, T 36, T 37, T 38, T 39, T 40, T 41, T 42, T 43, T 44, T 45, T 46, T 47, T 48, T 49, T 50, T 51, T 52, T 53, T 54, T 55, T 56, T 57, T 58, T 59, T 60, T 61, T 62, T 63, T 64, T 65, T 66, T 67, T 68, T 69, T 70, T 71, T 72, T 73, T 74, T 75, T 76, T 77, T 78, T 79, T 80, T 81, T 82, T 83, T 84, T 85, T 86]
noncomputable def zbody : Code := match Try.f8.body with | some c => c | _ => .skip
theorem zbody_is : Try.f8.body = some zbody := rfl
abbrev actZ (a0 a1 a2 : Int) (A : Option Addr) (n c : Nat) (kw kh : Int) : Act := ⟨arrZ uns (.int .i64 a0) (.int .i64 a1) (.int .i64 a2) (.slice A n c) (.int .i64 kw) (.int .i64 kh), []⟩
set_option maxRecDepth 100000 in
theorem zl_enter (a0 a1 a2 : Int) (A : Option Addr) (n c : Nat) (kw kh : Int) : Frame.enter Try.prog 8 #[.int .i64 a0, .int .i64 a1, .int .i64 a2, .slice A n c, .int .i64 kw, .int .i64 kh] .normal = (base 8).at (actZ a0 a1 a2 A n c kw kh) [.code zbody] := by
  rw [enter_at _ Try.func8 zbody_is]
  kernel_rfl
theorem zl_spine : spineOk Try.prog ⟨fun _ => false, fun _ => false, fun _ => false, fun _ => false⟩ 2 zbody = true := by kernel_rfl
theorem zl_results : Try.f8.results.all resOk = true := by kernel_rfl
set_option maxRecDepth 100000 in
set_option maxHeartbeats 1600000 in
theorem zl_gate (a0 a1 a2 : Int) (A : Option Addr) (n c : Nat) (kw kh : Int) (w : World) (h : n > 10000) :
    Rets Try.prog 8 2 zbody (fun u w' => u = .bool true) (actZ a0 a1 a2 A n c kw kh) w := by
  simp only [Rets, zbody, Try.f8, cut]
  have h1 : (n : Int) > 10000 := by omega
  go_wp2
  kernel_rfl
set_option maxRecDepth 100000 in
set_option maxHeartbeats 1600000 in
theorem zl_reach (a0 a1 a2 : Int) (A : Option Addr) (n c : Nat) (kw kh : Int) (w : World) (h1 : n ≤ 10000) :
    Rel.Reach Try.prog 2 zbody (fun a' w' => a'.defers = [] ∧ a'.tmps = arrZ (fun i => a'.tmps.getD i undef) (.int .i64 a0) (.int .i64 a1) (.int .i64 a2) (.slice A n c) (.int .i64 kw) (.int .i64 kh)) (actZ a0 a1 a2 A n c kw kh) w := by
  have h3 : ¬ (n : Int) > 10000 := by omega
  simp only [zbody, Try.f8]
  refine reach_seq ?_
  go_wp2
  refine reach_seq ?_
  go_wp2
  refine reach_here ?_
  exact ⟨rfl, by kernel_rfl⟩
/-! ### cells that the program has made, called by a law -/
abbrev cellV (d0 d1 d2 : Int) (A : Option Addr) (n c : Nat) : Value := .agg #[.int .i64 d0, .int .i64 d1, .int .i64 d2, .slice A n c]
def hdOf (g : Bool) (a : Int) : Int := if g then a else 0
def cntOf (g : Bool) (a0 a1 a2 : Int) (xss : List (List Int)) : List Int := if g then sumC a0.toNat a2.toNat a1.toNat xss xss.length else []
section
variable {W₀ : World} {l : List Fc} {F S : Nat → Prop} {own : List ((Nat → Prop) × Fc)} {Shun : Loc → Prop} {w : World} {m : Machine} {t : Trace} {a0 a1 a2 : Int} {A : Option Addr} {c : Nat} {xss : List (List Int)} {kw : Int} {cs : List Frame} {b₀ : Frame} {a₀ : Act} {ops₀ : Array Oper} {i₀ : Nat} {rest₀ : List Nat} {k₀ : List Item}
theorem ssr_sub {F F' : Nat → Prop} (h : SSr F w A xss) (hs : ∀ y, F y → F' y) : SSr F' w A xss := h.stay fun y hy => ⟨hs y hy, rfl⟩
/-- ████ impl.CellsShared, CALLED BY A LAW. ████ -/
theorem cells_at (h : At Try.prog Shun (G (Frame.enter Try.prog 28 #[.int .i64 a0, .int .i64 a1, .int .i64 a2, .slice A xss.length c, .int .i64 kw] .normal) (b₀.at a₀ (.inRegion ops₀ (i₀ :: rest₀) :: k₀) :: cs)) w m t) (hH : LH W₀ l F own S w) (hS : ∀ y, S y → FreeB Shun w y)
    (h0 : W64 a0) (h1 : W64 a1) (h2 : W64 a2) (hx : SSr S w A xss) :
    ∃ K m' t' w' Shun' Ag cg G', runNT Try.prog K m t = (.next m', t') ∧ At Try.prog Shun' (G (b₀.at (a₀.put ((ops₀[i₀]?).bind (·.dst)) (.tuple #[cellV (hdOf (gateCS a0 a1 a2 xss kw) a0) (hdOf (gateCS a0 a1 a2 xss kw) a1) (hdOf (gateCS a0 a1 a2 xss kw) a2) Ag (cntOf (gateCS a0 a1 a2 xss kw) a0 a1 a2 xss).length cg, .bool (gateCS a0 a1 a2 xss kw)])) (.inRegion ops₀ rest₀ :: k₀)) cs) w' m' t' ∧
      LH W₀ l F ((G', .own Ag (cntOf (gateCS a0 a1 a2 xss kw) a0 a1 a2 xss)) :: own) (FreeB Shun' w') w' := by
  obtain ⟨K, m', t', w', Shun', v, hr, hAt, hg, hR⟩ := cells_machine h hH.glob h0 h1 h2 (ssr_sub hx hS)
  have hH1 := (hH.wide hS fun y hy => hy.1).grow hg
  rcases hR with ⟨e, rfl⟩ | ⟨e, g, wd, dp, s, rfl, rfl, rfl, rfl, q1, q2, q3⟩
  · refine ⟨K, m', t', w', Shun', none, 0, fun _ => False, hr, ?_, ?_⟩
    · rw [e]; exact hAt
    · rw [e]
      exact hH1.addOwn ⟨fun hne => absurd rfl hne, fun a ha => by cases ha⟩ (fun y hy => hy.elim) (fun y _ hy => hy) fun q hq y _ hy => hy
  · have hlen : (sumC wd s dp xss xss.length).length = wd * dp := sumC_length _ _ _ _ _
    refine ⟨K, m', t', w', Shun', some ⟨g, 0, none⟩, wd * dp, fun y => y = g, hr, ?_, ?_⟩
    · rw [e]
      simp only [hdOf, cntOf, if_true, Int.toNat_natCast, hlen]
      exact hAt
    · rw [e]
      simp only [cntOf, if_true, Int.toNat_natCast]
      refine hH1.addOwn ⟨fun _ => ⟨g, [], rfl, Nat.zero_le _, by rw [List.append_nil]; exact q3⟩, fun a ha => ?_⟩ (fun y hy => by subst hy; exact q2) (fun y hy hn => ?_) fun q hq y hy hn => ?_
      · obtain rfl := Option.some.inj ha
        exact ⟨rfl, ⟨_, _, q3, fun v hv => by simp at hv; obtain ⟨i, _, rfl⟩ := hv; exact ⟨i, rfl⟩⟩, rfl⟩
      · subst hn
        have := hH.low y (hH.sub y hy)
        omega
      · subst hn
        have := hH.low y ((hH.ow q hq).2.1 y hy)
        omega
end
end Go.Proofs.Ytmmolicodlmlkaa.Ph
namespace Go.Proofs.Ytmmolicodlmlkaa.Ph
open Go.Conc Go.ConcN Go.RowKit
open Go.Proofs.Ytmmolicodlmlkaa.Rel
set_option linter.unusedVariables false
set_option linter.unusedSimpArgs false

abbrev arrZ1 (T : Nat → Value) (v0 v1 v2 v3 v4 v5 v28 : Value) : Array Value := #[v0, v1, v2, v3, v4, v5, T 6, T 7, T 8, T 9, T 10, T 11, T 12, T 13, T 14, T 15, T 16, T 17, T 18, T 19, T 20, T 21, T 22, T 23, T 24, T 25, T 26, T 27, v28, T 29, T 30, T 31, T 32, T 33, T 34, T 35, T 36, T 37, T 38, T 39, T 40, T 41, T 42, T 43, T 44, T 45, T 46, T 47, T 48, T 49, T 50, T 51, T 52, T 53, T 54, T 55, T 56, T 57, T 58, T 59, T 60, T 61, T 62, T 63, T 64, T 65, T 66, T 67, T 68, T 69, T 70, T 71, T 72, T 73, T 74, T 75, T 76, T 77, T 78, T 79, T 80, T 81, T 82, T 83, T 84, T 85, T 86]
set_option maxRecDepth 100000 in
theorem abs_arrZ1 (Fs : Fns) (B : Nat) (T : Nat → Value) (v0 v1 v2 v3 v4 v5 v28 : Value) : absA Fs B ⟨arrZ1 T v0 v1 v2 v3 v4 v5 v28, []⟩ = ⟨arrZ1 (fun i => absV Fs B (T i)) (absV Fs B v0) (absV Fs B v1) (absV Fs B v2) (absV Fs B v3) (absV Fs B v4) (absV Fs B v5) (absV Fs B v28), []⟩ := by
  unfold absA arrZ1
  simp only [List.map_toArray, List.map_cons, List.map_nil]
abbrev arrZ2 (T : Nat → Value) (v0 v1 v2 v3 v4 v5 v13 v14 : Value) : Array Value := #[v0, v1, v2, v3, v4, v5, T 6, T 7, T 8, T 9, T 10, T 11, T 12, v13, v14, T 15, T 16, T 17, T 18, T 19, T 20, T 21, T 22, T 23, T 24, T 25, T 26, T 27, T 28, T 29, T 30, T 31, T 32, T 33, T 34, T 35, T 36, T 37, T 38, T 39, T 40, T 41, T 42, T 43, T 44, T 45, T 46, T 47, T 48, T 49, T 50, T 51, T 52, T 53, T 54, T 55, T 56, T 57, T 58, T 59, T 60, T 61, T 62, T 63, T 64, T 65, T 66, T 67, T 68, T 69, T 70, T 71, T 72, T 73, T 74, T 75, T 76, T 77, T 78, T 79, T 80, T 81, T 82, T 83, T 84, T 85, T 86]
set_option maxRecDepth 100000 in
theorem abs_arrZ2 (Fs : Fns) (B : Nat) (T : Nat → Value) (v0 v1 v2 v3 v4 v5 v13 v14 : Value) : absA Fs B ⟨arrZ2 T v0 v1 v2 v3 v4 v5 v13 v14, []⟩ = ⟨arrZ2 (fun i => absV Fs B (T i)) (absV Fs B v0) (absV Fs B v1) (absV Fs B v2) (absV Fs B v3) (absV Fs B v4) (absV Fs B v5) (absV Fs B v13) (absV Fs B v14), []⟩ := by
  unfold absA arrZ2
  simp only [List.map_toArray, List.map_cons, List.map_nil]
abbrev arrZ3 (T : Nat → Value) (v0 v1 v2 v3 v4 v5 v13 v14 v37 : Value) : Array Value := #[v0, v1, v2, v3, v4, v5, T 6, T 7, T 8, T 9, T 10, T 11, T 12, v13, v14, T 15, T 16, T 17, T 18, T 19, T 20, T 21, T 22, T 23, T 24, T 25, T 26, T 27, T 28, T 29, T 30, T 31, T 32, T 33, T 34, T 35, T 36, v37, T 38, T 39, T 40, T 41, T 42, T 43, T 44, T 45, T 46, T 47, T 48, T 49, T 50, T 51, T 52, T 53, T 54, T 55, T 56, T 57, T 58, T 59, T 60, T 61, T 62, T 63, T 64, T 65, T 66, T 67, T 68, T 69, T 70, T 71, T 72, T 73, T 74, T 75, T 76, T 77, T 78, T 79, T 80, T 81, T 82, T 83, T 84, T 85, T 86]
set_option maxRecDepth 100000 in
theorem abs_arrZ3 (Fs : Fns) (B : Nat) (T : Nat → Value) (v0 v1 v2 v3 v4 v5 v13 v14 v37 : Value) : absA Fs B ⟨arrZ3 T v0 v1 v2 v3 v4 v5 v13 v14 v37, []⟩ = ⟨arrZ3 (fun i => absV Fs B (T i)) (absV Fs B v0) (absV Fs B v1) (absV Fs B v2) (absV Fs B v3) (absV Fs B v4) (absV Fs B v5) (absV Fs B v13) (absV Fs B v14) (absV Fs B v37), []⟩ := by
  unfold absA arrZ3
  simp only [List.map_toArray, List.map_cons, List.map_nil]

noncomputable def zy3 : Array Oper := match Try.f8.body with | some (.seq _ (.seq _ (.seq (.region _ ops _) _))) => ops | _ => #[]
noncomputable def zc4 : Code := match Try.f8.body with | some (.seq _ (.seq _ (.seq _ c))) => c | _ => .skip
noncomputable def zy4 : Array Oper := match Try.f8.body with | some (.seq _ (.seq _ (.seq _ (.seq (.region _ ops _) _)))) => ops | _ => #[]
noncomputable def ztail : Code := match Try.f8.body with | some (.seq _ (.seq _ (.seq _ (.seq _ c)))) => c | _ => .skip
/-- The operations behind the first k. -/
theorem wpOps_drop {P : Program} {ops : Array Oper} {Q : Exit → Act → World → Prop} {a : Act} {w : World} (k : Nat) {rest : List Nat} (hr : rest = List.range' k (ops.toList.drop k).length) (h : wpList P ops Q (ops.toList.drop k) a w) : wpOps P ops Q rest a w := by
  rw [hr]
  refine wpOps_from k _ rfl (fun j => ?_) h
  rw [List.getElem?_drop, Array.getElem?_toList]
set_option maxRecDepth 100000 in
set_option maxHeartbeats 1600000 in
theorem zl_mid (T : Nat → Value) (v0 v1 v2 v3 v4 v5 : Value) (d0 d1 d2 : Int) (Ag : Option Addr) (n cg : Nat) (g : Bool) (w : World) :
    ReachM Try.prog zy3 [6, 7, 8, 9, 10, 11] 0 zc4 (fun a' w' => a'.defers = [] ∧ ∃ b, a'.tmps = arrZ2 (fun i => a'.tmps.getD i undef) v0 v1 v2 v3 v4 v5 (ptrB b) (.bool g) ∧ w.heap.size ≤ b ∧ w'.heap[b]? = some (.cells #[.int .i64 d0, .int .i64 d1, .int .i64 d2, .slice Ag n cg] 37 (0, 0)))
      ⟨arrZ1 T v0 v1 v2 v3 v4 v5 (.tuple #[cellV d0 d1 d2 Ag n cg, .bool g]), []⟩ w := by
  refine reachM_of (wpOps_drop 6 (by kernel_rfl) ?_)
  simp only [zy3, Try.f8, List.drop_succ_cons, List.drop_zero]
  go_wp2
  refine reach_here ?_
  refine ⟨rfl, w.heap.size, by kernel_rfl, Nat.le_refl _, ?_⟩
  exact heap_alloc_new _ _
theorem zcnt_true {a0 a1 a2 : Int} {xss : List (List Int)} {kw : Int} (h : gateCS a0 a1 a2 xss kw = true) : (∀ z ∈ sumC a0.toNat a2.toNat a1.toNat xss xss.length, W64 z) ∧ (sumC a0.toNat a2.toNat a1.toNat xss xss.length).length ≤ 1048576 ∧ seqC a0.toNat a2.toNat a1.toNat xss xss.length = sumC a0.toNat a2.toNat a1.toNat xss xss.length := by
  simp only [gateCS, Bool.and_eq_true, decide_eq_true_eq] at h
  obtain ⟨⟨⟨⟨g1, g2⟩, g3⟩, g4⟩, g5⟩ := h
  obtain ⟨e0, e1, e2⟩ := sidesB_iff g1
  have f0 : 2 ≤ a0 ∧ a0 ≤ 64 := by simpa [Go.Proofs.Ytmmolicodlmlkaa.inB] using e0
  have f1 : 1 ≤ a1 ∧ a1 ≤ 6 := by simpa [Go.Proofs.Ytmmolicodlmlkaa.inB] using e1
  have hk : ∀ x ∈ xss, x.length ≤ 256 := fun x hx => (keysQ_iff (List.all_eq_true.1 g5 x hx)).1
  refine ⟨fun z hz => ?_, ?_, (sumC_seqC (Nat.le_refl _)).symm⟩
  · have := sumC_bound (wd := a0.toNat) (s := a2.toNat) (dp := a1.toNat) (by omega) hk xss.length z hz
    exact w64_of_bounds (by omega)
  · rw [sumC_length]
    have : a0.toNat * a1.toNat ≤ 64 * 6 := Nat.mul_le_mul (by omega) (by omega)
    omega
theorem cgate_same {a0 a1 a2 : Int} {xss : List (List Int)} {kw kh : Int} (h1 : Go.Proofs.Ytmmolicodlmlkaa.inB kw 1 8 = true) (h2 : Go.Proofs.Ytmmolicodlmlkaa.inB kh 1 8 = true) : gateCS a0 a1 a2 xss kh = gateCS a0 a1 a2 xss kw := by unfold gateCS; rw [h1, h2]
theorem same_yes (a0 a1 a2 : Int) (x : List Int) : sameCells a0 a0 a1 a1 a2 a2 x x = true := by simp [sameCells]
set_option maxRecDepth 100000 in
set_option maxHeartbeats 8000000 in
theorem ztail_ends (T : Nat → Value) (a0 a1 a2 : Int) (A : Option Addr) (c : Nat) (xss : List (List Int)) (kw kh : Int) (b : Nat) (Ag : Option Addr) (cg : Nat) (Ah : Option Addr) (ch : Nat) (w : World) (w0 : W64 a0) (w1' : W64 a1) (w2 : W64 a2) (hx : RdLL w A xss)
    (k0 : w.cell? ⟨b, 0, none⟩ = some (.int .i64 (hdOf (gateCS a0 a1 a2 xss kw) a0))) (k1 : w.cell? ⟨b, 1, none⟩ = some (.int .i64 (hdOf (gateCS a0 a1 a2 xss kw) a1))) (k2 : w.cell? ⟨b, 2, none⟩ = some (.int .i64 (hdOf (gateCS a0 a1 a2 xss kw) a2))) (k3 : w.cell? ⟨b, 3, none⟩ = some (.slice Ag (cntOf (gateCS a0 a1 a2 xss kw) a0 a1 a2 xss).length cg))
    (hg : RdL (Value.int .i64) w Ag (cntOf (gateCS a0 a1 a2 xss kw) a0 a1 a2 xss)) (hh : RdL (Value.int .i64) w Ah (cntOf (gateCS a0 a1 a2 xss kh) a0 a1 a2 xss)) :
    EndsM Try.prog zy4 [6, 7, 8, 9, 10, 11] 8 ztail (fun u w' => u = .bool true)
      ⟨arrZ3 T (.int .i64 a0) (.int .i64 a1) (.int .i64 a2) (.slice A xss.length c) (.int .i64 kw) (.int .i64 kh) (ptrB b) (.bool (gateCS a0 a1 a2 xss kw)) (.tuple #[cellV (hdOf (gateCS a0 a1 a2 xss kh) a0) (hdOf (gateCS a0 a1 a2 xss kh) a1) (hdOf (gateCS a0 a1 a2 xss kh) a2) Ah (cntOf (gateCS a0 a1 a2 xss kh) a0 a1 a2 xss).length ch, .bool (gateCS a0 a1 a2 xss kh)]), []⟩ w := by
  have HX := hid hx
  have HG := hid hg
  have HH := hid hh
  have HT := hid (fun h => zcnt_true (a0 := a0) (a1 := a1) (a2 := a2) (xss := xss) (kw := kw) h)
  have HK := hid (fun (h1 : ¬ kw < 1) (h2 : ¬ kw > 8) (h3 : ¬ kh < 1) (h4 : ¬ kh > 8) => cgate_same (a0 := a0) (a1 := a1) (a2 := a2) (xss := xss) (inB_yes h1 h2) (inB_yes h3 h4))
  have HB := hid (And.intro k0 (And.intro k1 (And.intro k2 k3)))
  have hbl : b < w.heap.size := World.block_lt_of_cell? w _ k0
  obtain ⟨g2, hg2⟩ : ∃ g, g = gateCS a0 a1 a2 xss kh := ⟨_, rfl⟩
  obtain ⟨xh, hxh⟩ : ∃ l, l = cntOf g2 a0 a1 a2 xss := ⟨_, rfl⟩
  obtain ⟨e0, he0⟩ : ∃ e, e = hdOf g2 a0 := ⟨_, rfl⟩
  obtain ⟨e1, he1⟩ : ∃ e, e = hdOf g2 a1 := ⟨_, rfl⟩
  obtain ⟨e2, he2⟩ : ∃ e, e = hdOf g2 a2 := ⟨_, rfl⟩
  have HXH := hid hxh
  have HE := hid (And.intro he0 (And.intro he1 he2))
  have HG2 := hid hg2
  rw [← hg2] at HH ⊢
  rw [← hxh] at HH ⊢
  rw [← he0, ← he1, ← he2]
  clear hx hg hh k0 k1 k2 k3 hxh hg2 he0 he1 he2
  cases hgk : gateCS a0 a1 a2 xss kw with
  | false =>
    rw [hgk] at HK HB HG
    have HS := hid (fun w' (h : RdLL w' A xss) => hgk ▸ sCellsShared_any a0 a1 a2 A c xss kw w' h)
    clear hgk HT
    refine endsM_of (wpOps_drop 6 (by kernel_rfl) ?_)
    simp only [zy4, ztail, Try.f8, List.drop_succ_cons, List.drop_zero]
    go_wp2
    simp only [Rel.Ends]
    go_wp2_with fail
    refine (HS.out _ (HX.out.below (below_a1 _ _))).mono ?_
    rintro e w1 ⟨hb, h⟩
    rcases h with ⟨_, rfl⟩ | ⟨h, _⟩
    rotate_left
    · cases h
    by_cases k1 : kw < 1
    · go_wp2
      kernel_rfl
    by_cases k2 : kw > 8
    · go_wp2
      kernel_rfl
    by_cases k3 : kh < 1
    · go_wp2
      kernel_rfl
    by_cases k4 : kh > 8
    · go_wp2
      kernel_rfl
    have hk := HK.out (by omega) (by omega) (by omega) (by omega)
    rw [← HG2.out] at hk
    subst hk
    go_wp2
    kernel_rfl
  | true =>
    have ht := HT.out hgk
    have HS := hid (fun w' (h : RdLL w' A xss) => hgk ▸ sCellsShared_any a0 a1 a2 A c xss kw w' h)
    rw [hgk] at HK HB HG
    obtain ⟨q1, q2, q3⟩ := ht
    have HW := hid q1
    have HQ := hid q2
    rw [q3] at HS
    simp only [show ∀ a, hdOf true a = a from fun a => rfl, show cntOf true a0 a1 a2 xss = sumC a0.toNat a2.toNat a1.toNat xss xss.length from rfl] at HB HG
    clear hgk HT q1 q2 q3
    have HXY : Hid (g2 = true → xh = sumC a0.toNat a2.toNat a1.toNat xss xss.length ∧ e0 = a0 ∧ e1 = a1 ∧ e2 = a2) := fun h => by
      have h1 := HXH.out
      obtain ⟨h2, h3, h4⟩ := HE.out
      rw [h] at h1 h2 h3 h4
      exact ⟨h1, h2, h3, h4⟩
    clear HXH HE
    generalize sumC a0.toNat a2.toNat a1.toNat xss xss.length = Y at HB HG HS HW HQ HXY
    refine endsM_of (wpOps_drop 6 (by kernel_rfl) ?_)
    simp only [zy4, ztail, Try.f8, List.drop_succ_cons, List.drop_zero]
    go_wp2
    simp only [Rel.Ends]
    go_wp2_with fail
    refine (HS.out _ (HX.out.below (below_a1 _ _))).mono ?_
    rintro e w1 ⟨hb, h⟩
    rcases h with ⟨h, _⟩ | ⟨_, A', c', rfl, hZ⟩
    · cases h
    generalize ho2 : Obj.cells #[Value.int .i64 e0, Value.int .i64 e1, Value.int .i64 e2, Value.slice Ah xh.length ch] 37 = o2 at hb hZ
    have hsz1 : w.heap.size + 1 ≤ w1.heap.size := by have := hb.size; simpa using this
    have B1 : Below w.heap.size w w1 := (below_a1 w o2).trans (hb.mono (by simp))
    have B2 : Below w.heap.size w (w1.alloc (Obj.cells #[Value.int .i64 a0, Value.int .i64 a1, Value.int .i64 a2, Value.slice (some A') Y.length c'] 37)) := B1.alloc (by omega) _
    have BB : Below (w.alloc o2).heap.size (w.alloc o2) (w1.alloc (Obj.cells #[Value.int .i64 a0, Value.int .i64 a1, Value.int .i64 a2, Value.slice (some A') Y.length c'] 37)) := hb.alloc (by simpa using hsz1) _
    obtain ⟨b0, b1, b2, b3⟩ := HB.out
    have k0 := cell_grown b0 B2
    have k1 := cell_grown b1 B2
    have k2 := cell_grown b2 B2
    have k3 := cell_grown b3 B2
    have q2 : (w.alloc o2).heap[w.heap.size]? = some o2 := heap_alloc_new w o2
    have m0 : (w1.alloc (Obj.cells #[Value.int .i64 a0, Value.int .i64 a1, Value.int .i64 a2, Value.slice (some A') Y.length c'] 37)).cell? ⟨w.heap.size, 0, none⟩ = some (.int .i64 e0) := cell_grown (by unfold World.cell?; rw [q2, ← ho2]; rfl) BB
    have m1 : (w1.alloc (Obj.cells #[Value.int .i64 a0, Value.int .i64 a1, Value.int .i64 a2, Value.slice (some A') Y.length c'] 37)).cell? ⟨w.heap.size, 1, none⟩ = some (.int .i64 e1) := cell_grown (by unfold World.cell?; rw [q2, ← ho2]; rfl) BB
    have m2 : (w1.alloc (Obj.cells #[Value.int .i64 a0, Value.int .i64 a1, Value.int .i64 a2, Value.slice (some A') Y.length c'] 37)).cell? ⟨w.heap.size, 2, none⟩ = some (.int .i64 e2) := cell_grown (by unfold World.cell?; rw [q2, ← ho2]; rfl) BB
    have m3 : (w1.alloc (Obj.cells #[Value.int .i64 a0, Value.int .i64 a1, Value.int .i64 a2, Value.slice (some A') Y.length c'] 37)).cell? ⟨w.heap.size, 3, none⟩ = some (.slice Ah xh.length ch) := cell_grown (by unfold World.cell?; rw [q2, ← ho2]; rfl) BB
    have q3 : (w1.alloc (Obj.cells #[Value.int .i64 a0, Value.int .i64 a1, Value.int .i64 a2, Value.slice (some A') Y.length c'] 37)).heap[w1.heap.size]? = some (Obj.cells #[Value.int .i64 a0, Value.int .i64 a1, Value.int .i64 a2, Value.slice (some A') Y.length c'] 37) := heap_alloc_new w1 _
    have n0 : (w1.alloc (Obj.cells #[Value.int .i64 a0, Value.int .i64 a1, Value.int .i64 a2, Value.slice (some A') Y.length c'] 37)).cell? ⟨w1.heap.size, 0, none⟩ = some (.int .i64 a0) := by unfold World.cell?; rw [q3]; rfl
    have n1 : (w1.alloc (Obj.cells #[Value.int .i64 a0, Value.int .i64 a1, Value.int .i64 a2, Value.slice (some A') Y.length c'] 37)).cell? ⟨w1.heap.size, 1, none⟩ = some (.int .i64 a1) := by unfold World.cell?; rw [q3]; rfl
    have n2 : (w1.alloc (Obj.cells #[Value.int .i64 a0, Value.int .i64 a1, Value.int .i64 a2, Value.slice (some A') Y.length c'] 37)).cell? ⟨w1.heap.size, 2, none⟩ = some (.int .i64 a2) := by unfold World.cell?; rw [q3]; rfl
    have n3 : (w1.alloc (Obj.cells #[Value.int .i64 a0, Value.int .i64 a1, Value.int .i64 a2, Value.slice (some A') Y.length c'] 37)).cell? ⟨w1.heap.size, 3, none⟩ = some (.slice (some A') Y.length c') := by unfold World.cell?; rw [q3]; rfl
    have G2 := hid (HG.out.below B2)
    have H2 := hid (HH.out.below B2)
    have Z2 : Hid (RdL (Value.int .i64) (w1.alloc (Obj.cells #[Value.int .i64 a0, Value.int .i64 a1, Value.int .i64 a2, Value.slice (some A') Y.length c'] 37)) (some A') Y) := hZ.own.rd.below (below_a1 w1 _)
    have M := hid (And.intro m0 (And.intro m1 (And.intro m2 m3)))
    have C1 : Hid (∀ w', w' = w1.alloc (Obj.cells #[Value.int .i64 a0, Value.int .i64 a1, Value.int .i64 a2, Value.slice (some A') Y.length c'] 37) → Calls Try.prog 33 #[cellV a0 a1 a2 Ag Y.length cg, cellV a0 a1 a2 (some A') Y.length c'] w' fun e w'' => e = .returned (.bool true) ∧ Below w'.heap.size w' w'') := fun w' e => by
      subst e
      have := sSameCells_any a0 a1 a2 Ag cg Y a0 a1 a2 (some A') c' Y _ w0 w1' w2 G2.out HQ.out HW.out w0 w1' w2 Z2.out HQ.out HW.out
      rw [same_yes] at this
      exact this
    clear hb hZ q2 q3 m0 m1 m2 m3 b0 b1 b2 b3
    go_wp2_with fail
    refine (C1.out _ rfl).mono ?_
    rintro e w3 ⟨rfl, hb3⟩
    have G3 := hid (G2.out.below hb3)
    have H3 := hid (H2.out.below hb3)
    obtain ⟨u0, u1, u2, u3⟩ := M.out
    have k0 := cell_grown k0 hb3
    have k1 := cell_grown k1 hb3
    have k2 := cell_grown k2 hb3
    have k3 := cell_grown k3 hb3
    have u0 := cell_grown u0 hb3
    have u1 := cell_grown u1 hb3
    have u2 := cell_grown u2 hb3
    have u3 := cell_grown u3 hb3
    clear hb3 C1 n0 n1 n2 n3
    by_cases h1 : kw < 1
    · go_wp2
      kernel_rfl
    by_cases h2 : kw > 8
    · go_wp2
      kernel_rfl
    by_cases h3 : kh < 1
    · go_wp2
      kernel_rfl
    by_cases h4 : kh > 8
    · go_wp2
      kernel_rfl
    have hk := HK.out (by omega) (by omega) (by omega) (by omega)
    rw [← HG2.out] at hk
    obtain ⟨r0, r1, r2, r3⟩ := HXY.out hk
    clear HXY
    subst hk
    subst r0
    subst r1
    subst r2
    subst r3
    have C2 : Hid (∀ w', w' = w3 → Calls Try.prog 33 #[cellV e0 e1 e2 Ag xh.length cg, cellV e0 e1 e2 Ah xh.length ch] w' fun e w'' => e = .returned (.bool true) ∧ Below w'.heap.size w' w'') := fun w' e => by
      subst e
      have := sSameCells_any e0 e1 e2 Ag cg xh e0 e1 e2 Ah ch xh _ w0 w1' w2 G3.out HQ.out HW.out w0 w1' w2 H3.out HQ.out HW.out
      rw [same_yes] at this
      exact this
    go_wp2_with (go_at_call 33; refine (C2.out _ rfl).mono ?_; rintro e w4 ⟨rfl, hb4⟩)
    kernel_rfl

end Go.Proofs.Ytmmolicodlmlkaa.Ph
namespace Go.Proofs.Ytmmolicodlmlkaa.Ph
open Go.Conc Go.ConcN Go.RowKit Go.Conc.Lib Go.ConcR.Gen Go.ConcN.Gen
open Go.ConcR (KK wgBlock WgAt stA smA rd wr mk DC0 Payload)
open Go.Proofs.Ytmmolicodlmlkaa.Rel
set_option linter.unusedVariables false
set_option linter.unusedSimpArgs false

theorem nm_iCells : (Try.f28.name == "runtime.NumGoroutine") = false := by kernel_rfl
def zoFs : FuncId → Bool := fun f => [26, 33, 72, 73, 78, 85, 86, 87, 94, 120, 128, 136, 154].contains f
theorem zoFs_0 : fnOk Try.prog zoFs Try.f26 = true := by kernel_rfl
theorem zoFs_1 : fnOk Try.prog zoFs Try.f33 = true := by kernel_rfl
theorem zoFs_2 : fnOk Try.prog zoFs Try.f72 = true := by kernel_rfl
theorem zoFs_3 : fnOk Try.prog zoFs Try.f73 = true := by kernel_rfl
theorem zoFs_4 : fnOk Try.prog zoFs Try.f78 = true := by kernel_rfl
theorem zoFs_5 : fnOk Try.prog zoFs Try.f85 = true := by kernel_rfl
theorem zoFs_6 : fnOk Try.prog zoFs Try.f86 = true := by kernel_rfl
theorem zoFs_7 : fnOk Try.prog zoFs Try.f87 = true := by kernel_rfl
theorem zoFs_8 : fnOk Try.prog zoFs Try.f94 = true := by kernel_rfl
theorem zoFs_9 : fnOk Try.prog zoFs Try.f120 = true := by kernel_rfl
theorem zoFs_10 : fnOk Try.prog zoFs Try.f128 = true := by kernel_rfl
theorem zoFs_11 : fnOk Try.prog zoFs Try.f136 = true := by kernel_rfl
theorem zoFs_12 : fnOk Try.prog zoFs Try.f154 = true := by kernel_rfl
theorem zoFs_ok : ∀ f, zoFs f = true → ∃ fn, Try.prog.funcs[f]? = some fn ∧ fnOk Try.prog zoFs fn = true := by
  intro f hf
  simp [zoFs] at hf
  rcases hf with rfl | rfl | rfl | rfl | rfl | rfl | rfl | rfl | rfl | rfl | rfl | rfl | rfl
  · exact ⟨_, Try.func26, zoFs_0⟩
  · exact ⟨_, Try.func33, zoFs_1⟩
  · exact ⟨_, Try.func72, zoFs_2⟩
  · exact ⟨_, Try.func73, zoFs_3⟩
  · exact ⟨_, Try.func78, zoFs_4⟩
  · exact ⟨_, Try.func85, zoFs_5⟩
  · exact ⟨_, Try.func86, zoFs_6⟩
  · exact ⟨_, Try.func87, zoFs_7⟩
  · exact ⟨_, Try.func94, zoFs_8⟩
  · exact ⟨_, Try.func120, zoFs_9⟩
  · exact ⟨_, Try.func128, zoFs_10⟩
  · exact ⟨_, Try.func136, zoFs_11⟩
  · exact ⟨_, Try.func154, zoFs_12⟩
theorem ztail_ok : codeOk Try.prog ⟨zoFs, fun _ => false, fun _ => false, fun _ => false⟩ ztail = true := by kernel_rfl
theorem zy4_ok : opsOk Try.prog ⟨zoFs, fun _ => false, fun _ => false, fun _ => false⟩ zy4 [6, 7, 8, 9, 10, 11] = true := by kernel_rfl
theorem zy3_ok : opsOk Try.prog ⟨fun _ => false, fun _ => false, fun _ => false, fun _ => false⟩ zy3 [6, 7, 8, 9, 10, 11] = true := by kernel_rfl
theorem zc4_spine : spineOk Try.prog ⟨fun _ => false, fun _ => false, fun _ => false, fun _ => false⟩ 0 zc4 = true := by kernel_rfl
set_option maxRecDepth 100000 in
theorem zput1 (T : Nat → Value) (v0 v1 v2 v3 v4 v5 v : Value) : Act.put ⟨arrZ T v0 v1 v2 v3 v4 v5, []⟩ ((zy3[5]?).bind (·.dst)) v = ⟨arrZ1 T v0 v1 v2 v3 v4 v5 v, []⟩ := by kernel_rfl
set_option maxRecDepth 100000 in
theorem zput2 (T : Nat → Value) (v0 v1 v2 v3 v4 v5 v13 v14 v : Value) : Act.put ⟨arrZ2 T v0 v1 v2 v3 v4 v5 v13 v14, []⟩ ((zy4[5]?).bind (·.dst)) v = ⟨arrZ3 T v0 v1 v2 v3 v4 v5 v13 v14 v, []⟩ := by kernel_rfl
section
variable {W₀ : World} {l : List Fc} {F S : Nat → Prop} {own : List ((Nat → Prop) × Fc)} {w : World} {a0 a1 a2 : Int} {A : Option Addr} {c : Nat} {xss : List (List Int)} {kw kh : Int}
theorem zl_ends (hF : LH W₀ [.ss A xss] F [] S w) (h : xss.length > 10000) : GL Try.prog (LawEnd W₀) S (G (Frame.enter Try.prog 8 #[.int .i64 a0, .int .i64 a1, .int .i64 a2, .slice A xss.length c, .int .i64 kw, .int .i64 kh] .normal) []) w := by
  have ha : ∀ z ∈ (actZ a0 a1 a2 A xss.length c kw kh).tmps, okV (fnsQ (fun _ => false) w S No) w.heap.size z = true := by
    intro z hz
    simp [arrZ, uns] at hz
    rcases hz with rfl | rfl | rfl | rfl | rfl | rfl | rfl
    · simp
    · simp
    · simp
    · exact okV_ss hF.lf (hF.base (f := .ss A xss) (by simp))
    · simp
    · simp
    · exact okV_undef _ _
  rw [zl_enter]
  exact law_ret hF Try.func8 rfl (by kernel_rfl) (gl_ret (fs := fun _ => false) (W := No) (fun b h => h.elim) hF.low zero_ok hF.glob (fun f h => by cases h) Try.func8 zl_results zl_spine rfl ha fun τ => zl_gate _ _ _ _ _ _ _ _ _ h)
set_option maxRecDepth 100000 in
set_option maxHeartbeats 8000000 in
theorem zl_a (hF : LH W₀ [.ss A xss] F [] S w) (h1 : xss.length ≤ 10000) :
    GL Try.prog (fun t g w' => ∃ T, g = G (Frame.enter Try.prog 28 #[.int .i64 a0, .int .i64 a1, .int .i64 a2, .slice A xss.length c, .int .i64 kw] .normal) [(base 8).at ⟨arrZ T (.int .i64 a0) (.int .i64 a1) (.int .i64 a2) (.slice A xss.length c) (.int .i64 kw) (.int .i64 kh), []⟩ [.inRegion zy3 [5, 6, 7, 8, 9, 10, 11], .code zc4]] ∧ LH W₀ [.ss A xss] F [] t w') S (G (Frame.enter Try.prog 8 #[.int .i64 a0, .int .i64 a1, .int .i64 a2, .slice A xss.length c, .int .i64 kw, .int .i64 kh] .normal) []) w := by
  have rl : ∀ {l : List Fc} {F : Nat → Prop} {own : List ((Nat → Prop) × Fc)} {S : Nat → Prop} {a b : World}, LH W₀ l F own S a → RS No S a b → LH W₀ l F own S b := fun h r => h.rely r
  have ha : ∀ z ∈ (actZ a0 a1 a2 A xss.length c kw kh).tmps, okV (fnsQ (fun _ => false) w S No) w.heap.size z = true := by
    intro z hz
    simp [arrZ, uns] at hz
    rcases hz with rfl | rfl | rfl | rfl | rfl | rfl | rfl
    · simp
    · simp
    · simp
    · exact okV_ss hF.lf (hF.base (f := .ss A xss) (by simp))
    · simp
    · simp
    · exact okV_undef _ _
  rw [zl_enter]
  have hcut := gl_cut (P := Try.prog) (fs := fun _ => false) (v := w) (F := S) (W := No) (cs := []) (f := 8) (n := 2) (fun b h => h.elim) hF.low zero_ok hF.glob (fun f h => by cases h) zl_spine rfl ha fun τ => zl_reach _ _ _ _ _ _ _ _ _ h1
  refine Go1.bind (fun _ a => RS.refl a) hcut ?_
  rintro t g w' ⟨s, rfl, ρ, a', wl, rfl, ⟨hd, ht⟩, hok, hL⟩
  have ea : A.map (renS ρ) = A := by
    have hB := (hF.base (f := .ss A xss) (by simp)).1
    cases A with
    | none => rfl
    | some a =>
      have := hL.id a.block (hF.low _ (hB a rfl).1)
      rw [Option.map_some, renS_none _ (hB a rfl).2.2]
      simp only [renA, this]
  replace hF := hF.lk (lk_left hF.low hL)
  generalize (fun b => (S b ∧ ¬ No b) ∨ s b) = S' at hF ⊢
  rw [ht]
  generalize (fun i => a'.tmps.getD i undef) = T
  simp only [arrZ, List.map_toArray, List.map_cons, List.map_nil, ren_slice, ren_int, ea]
  generalize ren ρ = rr
  clear hcut ha hok hL ht hd ea
  refine gl_go (n := 100) ?_
  simp only [zbody, Try.f8, cut]
  (u_in rl hF; rw [stepG_seq]; simp only [goes_go]; refine ⟨by (refine de1_none ?_; intro e he; simp at he), ?_⟩)
  (u_in rl hF; rw [stepG_region]; simp only [goes_go, List.size_toArray, List.length_cons, List.length_nil, Nat.reduceAdd, Nat.zero_add, List.range, List.range.loop]; refine ⟨by (refine de1_none ?_; intro e he; simp at he), ?_⟩)
  u_in rl hF
  refine goes_oper_k rfl rfl (by k_ne) (fun K hK => ?_)
  go_simp
  refine hK _ _ ⟨?_, ?_⟩
  · refine de1_none ?_
    intro e he
    have hm := mem_listed he
    simp [go_sem, *] at hm
  clear hK K
  try w_num
  u_in rl hF
  refine goes_oper_k rfl rfl (by k_ne) (fun K hK => ?_)
  go_simp
  refine hK _ _ ⟨?_, ?_⟩
  · refine de1_none ?_
    intro e he
    have hm := mem_listed he
    simp [go_sem, *] at hm
  clear hK K
  try w_num
  u_in rl hF
  refine goes_oper_k rfl rfl (by k_ne) (fun K hK => ?_)
  go_simp
  refine hK _ _ ⟨?_, ?_⟩
  · refine de1_none ?_
    intro e he
    have hm := mem_listed he
    simp [go_sem, *] at hm
  clear hK K
  try w_num
  u_in rl hF
  refine goes_oper_k rfl rfl (by k_ne) (fun K hK => ?_)
  go_simp
  refine hK _ _ ⟨?_, ?_⟩
  · refine de1_none ?_
    intro e he
    have hm := mem_listed he
    simp [go_sem, *] at hm
  clear hK K
  try w_num
  u_in rl hF
  refine goes_oper_k rfl rfl (by k_ne) (fun K hK => ?_)
  go_simp
  refine hK _ _ ⟨?_, ?_⟩
  · refine de1_none ?_
    intro e he
    have hm := mem_listed he
    simp [go_sem, *] at hm
  clear hK K
  try w_num
  u_in rl hF
  refine goes_call rfl rfl (by k_ne) rfl Try.func28 nm_iCells rfl ⟨by (refine de1_none ?_; intro e he; simp at he), ?_⟩
  rw [← enter_at _ Try.func28 rfl]
  refine Goes.stop fun w₁ h₁ => Go1.stop fun w₂ h₂ => ?_
  replace hF := rl (rl hF h₁) h₂
  refine ⟨fun i => Array.getD #[.int .i64 a0, .int .i64 a1, .int .i64 a2, .slice A xss.length c, .int .i64 kw, .int .i64 kh, rr (T 6), rr (T 7), rr (T 8), rr (T 9), rr (T 10), rr (T 11), rr (T 12), rr (T 13), rr (T 14), rr (T 15), rr (T 16), rr (T 17), rr (T 18), rr (T 19), rr (T 20), rr (T 21), rr (T 22), .int .i64 a0, .int .i64 a1, .int .i64 a2, .slice A xss.length c, .int .i64 kw, rr (T 28), rr (T 29), rr (T 30), rr (T 31), rr (T 32), rr (T 33), rr (T 34), rr (T 35), rr (T 36), rr (T 37), rr (T 38), rr (T 39), rr (T 40), rr (T 41), rr (T 42), rr (T 43), rr (T 44), rr (T 45), rr (T 46), rr (T 47), rr (T 48), rr (T 49), rr (T 50), rr (T 51), rr (T 52), rr (T 53), rr (T 54), rr (T 55), rr (T 56), rr (T 57), rr (T 58), rr (T 59), rr (T 60), rr (T 61), rr (T 62), rr (T 63), rr (T 64), rr (T 65), rr (T 66), rr (T 67), rr (T 68), rr (T 69), rr (T 70), rr (T 71), rr (T 72), rr (T 73), rr (T 74), rr (T 75), rr (T 76), rr (T 77), rr (T 78), rr (T 79), rr (T 80), rr (T 81), rr (T 82), rr (T 83), rr (T 84), rr (T 85), rr (T 86)] i undef, by kernel_rfl, hF⟩
set_option maxRecDepth 100000 in
set_option maxHeartbeats 8000000 in
theorem zl_b {T : Nat → Value} {d0 d1 d2 : Int} {Ag : Option Addr} {ys : List Int} {cg : Nat} {g1 : Bool} {Gg : Nat → Prop} (hM : Fc.ss A xss ∈ l) (hF : LH W₀ l F ((Gg, .own Ag ys) :: own) S w) :
    GL Try.prog (fun t g w' => ∃ T b F', g = G (Frame.enter Try.prog 28 #[.int .i64 a0, .int .i64 a1, .int .i64 a2, .slice A xss.length c, .int .i64 kh] .normal) [(base 8).at ⟨arrZ2 T (.int .i64 a0) (.int .i64 a1) (.int .i64 a2) (.slice A xss.length c) (.int .i64 kw) (.int .i64 kh) (ptrB b) (.bool g1), []⟩ [.inRegion zy4 [5, 6, 7, 8, 9, 10, 11], .code ztail]] ∧
      LH W₀ (.box b #[.int .i64 d0, .int .i64 d1, .int .i64 d2, .slice Ag ys.length cg] 37 :: l) F' ((Gg, .own Ag ys) :: own) t w') S
      (G ((base 8).at (Act.put ⟨arrZ T (.int .i64 a0) (.int .i64 a1) (.int .i64 a2) (.slice A xss.length c) (.int .i64 kw) (.int .i64 kh), []⟩ ((zy3[5]?).bind (·.dst)) (.tuple #[cellV d0 d1 d2 Ag ys.length cg, .bool g1])) [.inRegion zy3 [6, 7, 8, 9, 10, 11], .code zc4]) []) w := by
  have rl : ∀ {l : List Fc} {F : Nat → Prop} {own : List ((Nat → Prop) × Fc)} {S : Nat → Prop} {a b : World}, LH W₀ l F own S a → RS No S a b → LH W₀ l F own S b := fun h r => h.rely r
  rw [zput1]
  have fA := hF.base (f := .ss A xss) hM
  have fG := hF.mine (p := (Gg, .own Ag ys)) (by simp)
  have okG : okV (fnsQ (fun _ => false) w S No) w.heap.size (.tuple #[cellV d0 d1 d2 Ag ys.length cg, .bool g1]) = true := by
    have := okV_arg (fs := fun _ => false) (n := ys.length) (c := cg) hF.lf fG.2.p
    simp [okV_tuple, okV_agg, this]
  have hcut := gl_cutM (P := Try.prog) (fs := fun _ => false) (v := w) (F := S) (W := No) (cs := []) (f := 8) (n := 0) (c := zc4) (ops := zy3) (rest := [6, 7, 8, 9, 10, 11]) (fun b h => h.elim) hF.low zero_ok hF.glob (fun f h => by cases h) zc4_spine zy3_ok (Pre := fun a' w' => a'.defers = [] ∧ ∃ b, a'.tmps = arrZ2 (fun i => a'.tmps.getD i undef) (.int .i64 a0) (.int .i64 a1) (.int .i64 a2) (.slice A xss.length c) (.int .i64 kw) (.int .i64 kh) (ptrB b) (.bool g1) ∧ w.heap.size ≤ b ∧ w'.heap[b]? = some (.cells #[.int .i64 d0, .int .i64 d1, .int .i64 d2, .slice Ag ys.length cg] 37 (0, 0))) (a := ⟨arrZ1 T (.int .i64 a0) (.int .i64 a1) (.int .i64 a2) (.slice A xss.length c) (.int .i64 kw) (.int .i64 kh) (.tuple #[cellV d0 d1 d2 Ag ys.length cg, .bool g1]), []⟩) rfl fun τ => by
    rw [abs_arrZ1, absV_same (.int .i64 a0) (by simp), absV_same (.int .i64 a1) (by simp), absV_same (.int .i64 a2) (by simp), absV_same (.int .i64 kw) (by simp), absV_same (.int .i64 kh) (by simp), absV_same (.slice A xss.length c) (okV_ss hF.lf fA), absV_same _ okG]
    have h := zl_mid (fun i => absV (fnsQ (fun _ => false) w S No) w.heap.size (T i)) (.int .i64 a0) (.int .i64 a1) (.int .i64 a2) (.slice A xss.length c) (.int .i64 kw) (.int .i64 kh) d0 d1 d2 Ag ys.length cg g1 { loneW (fnsQ (fun _ => false) w S No) w with tape := τ, drawn := 0 }
    have e : ({ loneW (fnsQ (fun _ => false) w S No) w with tape := τ, drawn := 0 } : World).heap.size = w.heap.size := loneW_size
    rw [e] at h
    exact h
  refine Go1.bind (fun _ a => RS.refl a) hcut ?_
  rintro t g w' ⟨s, rfl, ρ, a', wl, rfl, ⟨hd, b, ht, hb1, hb2⟩, hok, hL⟩
  have rA : ∀ {B : Option Addr}, ArgP S w B → B.map (renS ρ) = B := by
    intro B hB
    cases B with
    | none => rfl
    | some a =>
      have := hL.id a.block (hF.low _ (hB a rfl).1)
      rw [Option.map_some, renS_none _ (hB a rfl).2.2]
      simp only [renA, this]
  have ea := rA fA.1
  have eg := rA fG.2.p
  have p1 := (left_blk hL (fnsQ_new hb1).1 hb2).1
  simp only [List.map_toArray, List.map_cons, List.map_nil, ren_slice, ren_int, eg] at p1
  have m1 := left_new hL hb1 (Array.getElem?_eq_some_iff.1 hb2).1
  have hlow := hF.low
  have hows := hF.ow
  replace hF := (hF.lk (lk_left hF.low hL)).addBase (f := .box (ρ.f b) #[.int .i64 d0, .int .i64 d1, .int .i64 d2, .slice Ag ys.length cg] 37) (N := fun y => y = ρ.f b) ⟨rfl, p1⟩ (fun y hy => by subst hy; exact .inr m1.1) (fun q hq y hy e => by
    subst e
    have := hlow _ ((hows q hq).2.1 _ hy)
    have := m1.2
    omega)
  generalize (fun b => (S b ∧ ¬ No b) ∨ s b) = S' at hF ⊢
  rw [ht]
  generalize (fun i => a'.tmps.getD i undef) = T
  simp only [arrZ2, List.map_toArray, List.map_cons, List.map_nil, ren_slice, ren_int, ren_bool, ren_pointer, Option.map_some, renS_lit, renA, ea]
  generalize ρ.f b = b at hF ⊢
  generalize ren ρ = rr
  clear hcut hok hL ht hd ea eg rA p1 m1 hb1 hb2 okG fA fG hlow hows
  refine gl_go (n := 100) ?_
  simp only [zc4, Try.f8, cut]
  (u_in rl hF; rw [stepG_seq]; simp only [goes_go]; refine ⟨by (refine de1_none ?_; intro e he; simp at he), ?_⟩)
  (u_in rl hF; rw [stepG_region]; simp only [goes_go, List.size_toArray, List.length_cons, List.length_nil, Nat.reduceAdd, Nat.zero_add, List.range, List.range.loop]; refine ⟨by (refine de1_none ?_; intro e he; simp at he), ?_⟩)
  u_in rl hF
  refine goes_oper_k rfl rfl (by k_ne) (fun K hK => ?_)
  go_simp
  refine hK _ _ ⟨?_, ?_⟩
  · refine de1_none ?_
    intro e he
    have hm := mem_listed he
    simp [go_sem, *] at hm
  clear hK K
  try w_num
  u_in rl hF
  refine goes_oper_k rfl rfl (by k_ne) (fun K hK => ?_)
  go_simp
  refine hK _ _ ⟨?_, ?_⟩
  · refine de1_none ?_
    intro e he
    have hm := mem_listed he
    simp [go_sem, *] at hm
  clear hK K
  try w_num
  u_in rl hF
  refine goes_oper_k rfl rfl (by k_ne) (fun K hK => ?_)
  go_simp
  refine hK _ _ ⟨?_, ?_⟩
  · refine de1_none ?_
    intro e he
    have hm := mem_listed he
    simp [go_sem, *] at hm
  clear hK K
  try w_num
  u_in rl hF
  refine goes_oper_k rfl rfl (by k_ne) (fun K hK => ?_)
  go_simp
  refine hK _ _ ⟨?_, ?_⟩
  · refine de1_none ?_
    intro e he
    have hm := mem_listed he
    simp [go_sem, *] at hm
  clear hK K
  try w_num
  u_in rl hF
  refine goes_oper_k rfl rfl (by k_ne) (fun K hK => ?_)
  go_simp
  refine hK _ _ ⟨?_, ?_⟩
  · refine de1_none ?_
    intro e he
    have hm := mem_listed he
    simp [go_sem, *] at hm
  clear hK K
  try w_num
  u_in rl hF
  refine goes_call rfl rfl (by k_ne) rfl Try.func28 nm_iCells rfl ⟨by (refine de1_none ?_; intro e he; simp at he), ?_⟩
  rw [← enter_at _ Try.func28 rfl]
  refine Goes.stop fun w₁ h₁ => Go1.stop fun w₂ h₂ => ?_
  replace hF := rl (rl hF h₁) h₂
  refine ⟨fun i => Array.getD #[.int .i64 a0, .int .i64 a1, .int .i64 a2, .slice A xss.length c, .int .i64 kw, .int .i64 kh, rr (T 6), rr (T 7), rr (T 8), rr (T 9), rr (T 10), rr (T 11), rr (T 12), ptrB b, .bool g1, rr (T 15), rr (T 16), rr (T 17), rr (T 18), rr (T 19), rr (T 20), rr (T 21), rr (T 22), rr (T 23), rr (T 24), rr (T 25), rr (T 26), rr (T 27), rr (T 28), rr (T 29), rr (T 30), rr (T 31), .int .i64 a0, .int .i64 a1, .int .i64 a2, .slice A xss.length c, .int .i64 kh, rr (T 37), rr (T 38), rr (T 39), rr (T 40), rr (T 41), rr (T 42), rr (T 43), rr (T 44), rr (T 45), rr (T 46), rr (T 47), rr (T 48), rr (T 49), rr (T 50), rr (T 51), rr (T 52), rr (T 53), rr (T 54), rr (T 55), rr (T 56), rr (T 57), rr (T 58), rr (T 59), rr (T 60), rr (T 61), rr (T 62), rr (T 63), rr (T 64), rr (T 65), rr (T 66), rr (T 67), rr (T 68), rr (T 69), rr (T 70), rr (T 71), rr (T 72), rr (T 73), rr (T 74), rr (T 75), rr (T 76), rr (T 77), rr (T 78), rr (T 79), rr (T 80), rr (T 81), rr (T 82), rr (T 83), rr (T 84), rr (T 85), rr (T 86)] i undef, b, _, by kernel_rfl, hF⟩
theorem zl_c {T : Nat → Value} {b : Nat} {Ag : Option Addr} {cg : Nat} {Gg : Nat → Prop} {Ah : Option Addr} {ch : Nat} {Gh : Nat → Prop} (w0 : W64 a0) (w1 : W64 a1) (w2 : W64 a2)
    (hF : LH W₀ [.box b #[.int .i64 (hdOf (gateCS a0 a1 a2 xss kw) a0), .int .i64 (hdOf (gateCS a0 a1 a2 xss kw) a1), .int .i64 (hdOf (gateCS a0 a1 a2 xss kw) a2), .slice Ag (cntOf (gateCS a0 a1 a2 xss kw) a0 a1 a2 xss).length cg] 37, .ss A xss] F [(Gh, .own Ah (cntOf (gateCS a0 a1 a2 xss kh) a0 a1 a2 xss)), (Gg, .own Ag (cntOf (gateCS a0 a1 a2 xss kw) a0 a1 a2 xss))] S w) :
    GL Try.prog (LawEnd W₀) S
      (G ((base 8).at (Act.put ⟨arrZ2 T (.int .i64 a0) (.int .i64 a1) (.int .i64 a2) (.slice A xss.length c) (.int .i64 kw) (.int .i64 kh) (ptrB b) (.bool (gateCS a0 a1 a2 xss kw)), []⟩ ((zy4[5]?).bind (·.dst)) (.tuple #[cellV (hdOf (gateCS a0 a1 a2 xss kh) a0) (hdOf (gateCS a0 a1 a2 xss kh) a1) (hdOf (gateCS a0 a1 a2 xss kh) a2) Ah (cntOf (gateCS a0 a1 a2 xss kh) a0 a1 a2 xss).length ch, .bool (gateCS a0 a1 a2 xss kh)])) [.inRegion zy4 [6, 7, 8, 9, 10, 11], .code ztail]) []) w := by
  rw [zput2]
  have fA := hF.base (f := .ss A xss) (by simp)
  have fB := hF.base (f := .box b #[.int .i64 (hdOf (gateCS a0 a1 a2 xss kw) a0), .int .i64 (hdOf (gateCS a0 a1 a2 xss kw) a1), .int .i64 (hdOf (gateCS a0 a1 a2 xss kw) a2), .slice Ag (cntOf (gateCS a0 a1 a2 xss kw) a0 a1 a2 xss).length cg] 37) (by simp)
  have fG := hF.mine (p := (Gg, .own Ag (cntOf (gateCS a0 a1 a2 xss kw) a0 a1 a2 xss))) (by simp)
  have fH := hF.mine (p := (Gh, .own Ah (cntOf (gateCS a0 a1 a2 xss kh) a0 a1 a2 xss))) (by simp)
  have okH : okV (fnsQ zoFs w S No) w.heap.size (.tuple #[cellV (hdOf (gateCS a0 a1 a2 xss kh) a0) (hdOf (gateCS a0 a1 a2 xss kh) a1) (hdOf (gateCS a0 a1 a2 xss kh) a2) Ah (cntOf (gateCS a0 a1 a2 xss kh) a0 a1 a2 xss).length ch, .bool (gateCS a0 a1 a2 xss kh)]) = true := by
    have := okV_arg (fs := zoFs) (n := (cntOf (gateCS a0 a1 a2 xss kh) a0 a1 a2 xss).length) (c := ch) hF.lf fH.2.p
    simp [okV_tuple, okV_agg, this]
  have hbl := hF.low _ fB.1
  have hal : (fnsQ zoFs w S No).al b = true := fnsQ_old hbl fB.1 (by rw [fB.2]; rfl)
  have okb : okV (fnsQ zoFs w S No) w.heap.size (ptrB b) = true := by rw [okV_pointer]; exact fnsQ_ok hF.low fB.1 (by rw [fB.2]; rfl)
  have okg := okV_arg (fs := zoFs) (n := (cntOf (gateCS a0 a1 a2 xss kw) a0 a1 a2 xss).length) (c := cg) hF.lf fG.2.p
  have cell : ∀ i u, (#[.int .i64 (hdOf (gateCS a0 a1 a2 xss kw) a0), .int .i64 (hdOf (gateCS a0 a1 a2 xss kw) a1), .int .i64 (hdOf (gateCS a0 a1 a2 xss kw) a2), .slice Ag (cntOf (gateCS a0 a1 a2 xss kw) a0 a1 a2 xss).length cg] : Array Value)[i]? = some u → okV (fnsQ zoFs w S No) w.heap.size u = true → (loneW (fnsQ zoFs w S No) w).cell? ⟨b, i, none⟩ = some u := fun i u h1 h2 =>
    loneW_at (a := ⟨b, i, none⟩) (by simp only [World.cell?, fB.2]; exact h1) rfl hal (fnsQ_no hbl) h2
  refine law_ret hF Try.func8 rfl (by kernel_rfl) (gl_endM (fs := zoFs) (W := No) (fun b h => h.elim) hF.low zero_ok hF.glob zoFs_ok Try.func8 zl_results ztail_ok zy4_ok rfl fun τ => ?_)
  rw [abs_arrZ3, absV_same (.int .i64 a0) (by simp), absV_same (.int .i64 a1) (by simp), absV_same (.int .i64 a2) (by simp), absV_same (.int .i64 kw) (by simp), absV_same (.int .i64 kh) (by simp), absV_same (.slice A xss.length c) (okV_ss hF.lf fA), absV_same _ okb, absV_same (.bool _) (by simp), absV_same _ okH]
  exact ztail_ends _ a0 a1 a2 A c xss kw kh b Ag cg Ah ch _ w0 w1 w2 (lone_ss hF.lf fA) (cell 0 _ rfl (by simp)) (cell 1 _ rfl (by simp)) (cell 2 _ rfl (by simp)) (cell 3 _ rfl okg) (lone_rdl hF.lf fG.1.rd fG.2.p) (lone_rdl hF.lf fH.1.rd fH.2.p)
end
/-- ████ FnCellsSharedOfAll: ONE GOOD RUN. ████ -/
theorem zall_runs {W : World} {a0 a1 a2 : Int} {A : Option Addr} {c : Nat} {xss : List (List Int)} {kw kh : Int} (hG : Try.prog.globals.size ≤ W.heap.size) (h0 : W64 a0) (h1 : W64 a1) (h2 : W64 a2) (hx : SSr (fun y => y < W.heap.size) W A xss) :
    ∃ M last o w' t', runNT Try.prog (M + 1) (solo (G (Frame.enter Try.prog 8 #[.int .i64 a0, .int .i64 a1, .int .i64 a2, .slice A xss.length c, .int .i64 kw, .int .i64 kh] .normal) []) W) #[] = (.ended o w', t') ∧
      runN Try.prog M (solo (G (Frame.enter Try.prog 8 #[.int .i64 a0, .int .i64 a1, .int .i64 a2, .slice A xss.length c, .int .i64 kw, .int .i64 kh] .normal) []) W) = .next last ∧ step Try.prog last = .ended o w' ∧ Go.Conc.Good Try.prog (fun v W' => v = .bool true ∧ Below W.heap.size W W') last o w' t' := by
  have hAt0 := at_start (P := Try.prog) (g := G (Frame.enter Try.prog 8 #[.int .i64 a0, .int .i64 a1, .int .i64 a2, .slice A xss.length c, .int .i64 kw, .int .i64 kh] .normal) []) (w := W)
  have hH0 : LH W [.ss A xss] (fun y => y < W.heap.size) [] (FreeB (fun _ => False) W) W :=
    ⟨⟨rfl, rfl, rfl⟩, fun y hy => ⟨hy, rfl⟩, fun y hy => hy.1, hG, fun f hf => by
      simp at hf
      subst hf
      exact hx, fun y hy => ⟨hy, fun l _ h => h⟩, by simp, List.Pairwise.nil⟩
  by_cases hg : xss.length > 10000
  · exact ends_at (K := 0) rfl hAt0 (fun y hy => hy) (zl_ends hH0 hg)
  have g1 : xss.length ≤ 10000 := by omega
  obtain ⟨K1, m1, t1, gg, w1, S1, r1, hAt1, ⟨T1, rfl, hH1⟩, hf1, _⟩ :=
    hAt0.walk (fun S g w d ⟨T, h1, h2⟩ => ⟨T, h1, h2.at⟩) (zl_a (c := c) (kw := kw) (kh := kh) hH0 g1)
  obtain ⟨K2, m2, t2, w2, Shun2, Ag, cg, Gg, r2, hAt2, hH2⟩ := cells_at hAt1 hH1 hf1 h0 h1 h2 (hH1.base (f := .ss A xss) (by simp))
  obtain ⟨K3, m3, t3, gg, w3, S3, r3, hAt3, ⟨T3, b, F3, rfl, hH3⟩, hf3, _⟩ :=
    hAt2.walk (fun S g w d ⟨T, b, F', h1, h2⟩ => ⟨T, b, F', h1, h2.at⟩) (zl_b (kw := kw) (kh := kh) (by simp) hH2)
  obtain ⟨K4, m4, t4, w4, Shun4, Ah, ch, Gh, r4, hAt4, hH4⟩ := cells_at hAt3 hH3 hf3 h0 h1 h2 (hH3.base (f := .ss A xss) (by simp))
  exact ends_at (run_trans r1 (run_trans r2 (run_trans r3 r4))) hAt4 (fun y hy => hy) (zl_c h0 h1 h2 hH4)
end Go.Proofs.Ytmmolicodlmlkaa.Ph
namespace Go.Proofs.Ytmmolicodlmlkaa.Ph
open Go.RowKit Go.ChangeShapes Go.WideShapes Go.Deep
open Go.Proofs.Ytmmolicodlmlkaa.Rel
set_option linter.unusedVariables false

section
variable {H : Type} {enc : TypeId × Value → H} {P : Program} {w : World}
theorem add_lit (b o i : Nat) : (⟨b, o, none⟩ : Addr).add i = ⟨b, o + i, none⟩ := by unfold Addr.add; split <;> simp_all
theorem cell_plz {a : Addr} {u : Value} (h : w.cell? a = some u) : a.block < w.heap.size ∧ Plz w a := by
  refine ⟨World.block_lt_of_cell? w a h, ?_, World.cell?_spot h⟩
  unfold World.cell? at h
  cases hb : w.heap[a.block]? with
  | none => rw [hb] at h; cases h
  | some o =>
    rw [hb] at h
    cases o <;> first | rfl | (simp at h; done)
theorem open_intLL {t e es : TypeId} {fuel : Nat} {v : Value} {x : DataW H × List MemPlace} (ht : P.underlying t = some (.slice e)) (he : P.underlying e = some (.slice es)) (hes : P.underlying es = some (.int .i64)) (ce : P.cellsOf e = 1) (ces : P.cellsOf es = 1)
    (hv : ∀ a n c, v = .slice (some a) n c → a.block < w.heap.size ∧ Plz w a)
    (h : DataW.trod enc P w 0 (fun _ => true) true fuel t [v] = some x) :
    ∃ A c xss n, v = .slice A n c ∧ Hid (List.length xss = n) ∧ n ≤ 9223372036854775807 ∧ SSr (fun y => y < w.heap.size) w A xss := by
  rcases open_slice ht h with ⟨hcs, _⟩ | ⟨a, len, cap, m, n, D, Pl, hcs, hb, hl, hm, hmm, _, hx⟩
  · simp at hcs
    subst hcs
    exact ⟨none, 0, [], 0, rfl, rfl, by omega, ⟨fun a ha => (by cases ha), fun o ho => (by simp at ho)⟩⟩
  · simp at hcs
    subst hcs
    obtain ⟨p1, p2, p3⟩ := hv _ _ _ rfl
    obtain ⟨b, o, spot⟩ := a
    obtain rfl : spot = none := p3
    have hlm : len ≤ m := by rw [hmm]; split <;> omega
    have each : ∀ i, i < len → ∃ q : Option Addr × Nat × List Int, w.cell? ⟨b, o + i, none⟩ = some (.slice q.1 q.2.2.length q.2.1) ∧ RdL (Value.int .i64) w q.1 q.2.2 ∧ (ArgP (fun y => y < w.heap.size) w q.1 ∨ (q.2.2 = [] ∧ q.2.1 = 0)) := by
      intro i hi
      obtain ⟨cs', h1, h2⟩ := hx i (by omega)
      rw [ce, Nat.mul_one, add_lit] at h1
      obtain ⟨_, hlen, hcell⟩ := World.cells?_some h1
      match cs', hlen with
      | [u], _ =>
        have hu := hcell 0 (by omega)
        rw [add_lit] at hu
        simp at hu
        rcases open_ints he hes ces h2 with ⟨hcs, _⟩ | ⟨a', len', cap', zs, hcs, _, hl', hm', hz, _, hcell', hwz⟩
        · simp at hcs
          subst hcs
          exact ⟨(none, 0, []), hu, RdL.nil, .inl fun a ha => by cases ha⟩
        · simp at hcs hz
          subst hcs
          have hzl : (zs.take len').length = len' := by simp; omega
          obtain ⟨b', o', s'⟩ := a'
          refine ⟨(some ⟨b', o', s'⟩, cap', zs.take len'), by simpa only [hzl] using hu, fun j hj => ?_, ?_⟩
          · have hj' : j < zs.length := by
              have : j < (zs.take len').length := hj
              simp at this; omega
            obtain rfl : s' = none := by simpa [Addr.add] using World.cell?_spot (hcell' 0 (by omega))
            have h0 := hcell' j hj'
            rw [add_lit] at h0
            exact ⟨b', o', rfl, by rw [h0]; simp [hj']⟩
          · by_cases h0 : cap' = 0
            · right
              refine ⟨?_, h0⟩
              have : len' = 0 := by omega
              simp [this]
            · left
              intro a ha
              obtain rfl := Option.some.inj ha
              have hc0 := hcell' 0 (by omega)
              obtain rfl : s' = none := by simpa [Addr.add] using World.cell?_spot hc0
              rw [add_lit] at hc0
              have := cell_plz hc0
              exact ⟨this.1, this.2.1, rfl⟩
    haveI : Inhabited (Option Addr × Nat × List Int) := ⟨(none, 0, [])⟩
    obtain ⟨q, hq⟩ := choose_lt each
    refine ⟨some ⟨b, o, none⟩, cap, (List.range len).map fun i => (q i).2.2, len, rfl, by show List.length _ = _; simp, by simp only [maxLen] at hm; omega, ⟨fun a ha => ?_, fun i hi => ?_⟩⟩
    · obtain rfl := Option.some.inj ha
      exact ⟨p1, p2, rfl⟩
    · have hi' : i < len := by simpa using hi
      obtain ⟨r1, r2, r3⟩ := hq i hi'
      refine ⟨b, o, (q i).1, (q i).2.1, rfl, ?_, ?_, ?_⟩
      · simpa using r1
      · simpa using r2
      · simpa using r3
end
end Go.Proofs.Ytmmolicodlmlkaa.Ph
