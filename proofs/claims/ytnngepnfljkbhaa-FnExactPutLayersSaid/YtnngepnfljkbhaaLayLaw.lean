/-
  The laws' helpers over a slice of cells: compare, mark, look for the marks: by contracts.
-/
import Derived.Test.YtnngepnfljkbhaaLay
import Derived.Test.YtnngepnfljkbhaaStCells
namespace Go.Proofs.Ytnngepnfljkbhaa
open Go.RowKit
set_option linter.unusedVariables false
set_option linter.unusedSimpArgs false

/-- The room that the marks of the first n take. -/
def offL (L : List Lay) : Nat → Int
  | 0 => 0
  | n + 1 => offL L n + 3 + (match L[n]? with | some e => (e.x.length : Int) | none => 0)
theorem offL_succ {L : List Lay} {n : Nat} {e : Lay} (h : L[n]? = some e) : offL L (n + 1) = offL L n + 3 + (e.x.length : Int) := by simp [offL, h]
theorem offL_ge (L : List Lay) (n : Nat) : 0 ≤ offL L n := by
  induction n with
  | zero => exact Int.le_refl _
  | succ n ih => simp only [offL]; cases L[n]? <;> simp <;> omega
theorem offL_mono (L : List Lay) {i j : Nat} (h : i < j) : offL L (i + 1) ≤ offL L j := by
  induction j with
  | zero => omega
  | succ j ih =>
    rcases Nat.lt_or_ge i j with h1 | h1
    · have := ih h1
      have h2 : offL L j ≤ offL L (j + 1) := by simp only [offL]; cases L[j]? <;> simp <;> omega
      omega
    · have : i = j := by omega
      subst this
      exact Int.le_refl _
/-- An element with marks from q on. -/
def Lay.mark (e : Lay) (q : Int) : Lay := ⟨q, q + 1, q + 1 + 1, e.A, e.c, marks markI (q + 1 + 1 + 1) e.x.length⟩
/-- The slice while it is being marked, and behind that. -/
def markT (q : Int) (L : List Lay) (n : Nat) : List Lay := (List.range L.length).zipWith (fun i e => if i < n then e.mark (q + offL L i) else e) L
theorem markT_length (q : Int) (L : List Lay) (n : Nat) : (markT q L n).length = L.length := by simp [markT]
theorem markT_at {q : Int} {L : List Lay} {n i : Nat} {e : Lay} (h : L[i]? = some e) : (markT q L n)[i]? = some (if i < n then e.mark (q + offL L i) else e) := by
  have hi : i < L.length := (List.getElem?_eq_some_iff.1 h).1
  simp [markT, List.getElem?_zipWith, List.getElem?_range hi, h]
theorem markT_zero (q : Int) (L : List Lay) : markT q L 0 = L := by
  apply List.ext_getElem?
  intro i
  cases h : L[i]? with
  | none => rw [List.getElem?_eq_none (by rw [markT_length]; exact List.getElem?_eq_none_iff.1 h)]
  | some e => rw [markT_at h]; simp
theorem markT_step {q : Int} {L : List Lay} {n : Nat} {e : Lay} (h : L[n]? = some e) : (markT q L n).set n (e.mark (q + offL L n)) = markT q L (n + 1) := by
  apply List.ext_getElem?
  intro i
  rw [List.getElem?_set, markT_length]
  have hn : n < L.length := (List.getElem?_eq_some_iff.1 h).1
  by_cases hi : n = i
  · subst hi
    rw [if_pos rfl, if_pos hn, markT_at h, if_pos (by omega)]
  · rw [if_neg hi]
    cases h2 : L[i]? with
    | none => rw [List.getElem?_eq_none (by rw [markT_length]; exact List.getElem?_eq_none_iff.1 h2), List.getElem?_eq_none (by rw [markT_length]; exact List.getElem?_eq_none_iff.1 h2)]
    | some f =>
      rw [markT_at h2, markT_at h2]
      by_cases h3 : i < n
      · rw [if_pos h3, if_pos (by omega)]
      · rw [if_neg h3, if_neg (by omega)]
theorem cell_below' {w w' : World} {a : Addr} {v : Value} (h : w.cell? a = some v) (hb : Below w.heap.size w w') : w'.cell? a = some v := (hb.cell (World.block_lt_of_cell? w a h)).trans h
set_option maxRecDepth 100000 in
set_option maxHeartbeats 600000 in
theorem markCellsS_any (A : Option Addr) (c B : Nat) (L : List Lay) (q : Int) (w : World) (hx : OwnC w B A L) (hn : L.length ≤ 256) (hl : ∀ e ∈ L, e.x.length ≤ 1048576) (hq0 : 0 ≤ q) (hq1 : q + offL L L.length ≤ 1000000000) (hB : B ≤ w.heap.size) :
    Calls Try.prog 37 #[.slice A L.length c, .int .i64 q] w fun e w' => e = .returned (.int .i64 (q + offL L L.length)) ∧ OwnC w' B A (markT q L L.length) ∧ Below B w w' := by
  have HX := hid hx
  have HL := hid hl
  clear hx hl
  go_enter Try.func37, Try.ntmps37
  go_wp2
  go_loopw [1, 5] (fun t j wr => ∃ i : Nat, i ≤ L.length ∧ j = .int .i64 i ∧ t = .int .i64 (q + offL L i) ∧ Hid (OwnC wr B A (markT q L i)) ∧ Hid (Below B w wr)) (fun _ j _ => L.length - (intOf j).toNat)
  case atStart => exact ⟨0, Nat.zero_le _, rfl, by simp [offL], by rw [markT_zero]; exact HX, Below.refl _ _⟩
  case round =>
    obtain ⟨i, hi, rfl, rfl, hO, hW⟩ := hrel
    by_cases hlt : i < L.length
    · have hil : (i : Int) < (L.length : Int) := by omega
      have hi0 : (0 : Int) ≤ (i : Int) := by omega
      obtain ⟨e, he⟩ : ∃ e, L[i]? = some e := ⟨_, List.getElem?_eq_getElem hlt⟩
      have hel := HL.out e (List.mem_of_getElem? he)
      have hoff := offL_succ he
      have hge := offL_ge L i
      have hmono : offL L (i + 1) ≤ offL L L.length := offL_mono L hlt
      have hme : (markT q L i)[i]? = some e := by rw [markT_at he, if_neg (by omega)]
      have hstep := hid (markT_step (q := q) he)
      obtain ⟨r, hr⟩ : ∃ r, r = q + offL L i := ⟨_, rfl⟩
      have hr0 : 0 ≤ r := by omega
      have hr1 : r + 3 + (e.x.length : Int) ≤ 1000000000 := by omega
      have hend : Hid (q + offL L (i + 1) = r + 3 + (e.x.length : Int)) := by show _ = _; omega
      rw [← hr] at hstep ⊢
      clear hr hoff hge hmono he
      obtain ⟨g, hA, hgB, c0, f0, o0⟩ := hO.out.put hme (j := 0) (by omega) (v := .int .i64 e.a) (u := .int .i64 r) (e' := { e with a := r }) rfl rfl rfl rfl
      subst hA
      have hm1 : ((markT q L i).set i { e with a := r })[i]? = some { e with a := r } := by rw [List.getElem?_set_self (by rw [markT_length]; exact hlt)]
      obtain ⟨g1, hg1, _, c1, f1, o1⟩ := o0.put hm1 (j := 1) (by omega) (v := .int .i64 e.b) (u := .int .i64 (r + 1)) (e' := { e with a := r, b := r + 1 }) rfl rfl rfl rfl
      injection hg1 with hg1; injection hg1 with hg1
      subst hg1
      rw [List.set_set] at o1
      have hm2 : ((markT q L i).set i { e with a := r, b := r + 1 })[i]? = some { e with a := r, b := r + 1 } := by rw [List.getElem?_set_self (by rw [markT_length]; exact hlt)]
      obtain ⟨g2, hg2, _, c2, f2, o2⟩ := o1.put hm2 (j := 2) (by omega) (v := .int .i64 e.s) (u := .int .i64 (r + 1 + 1)) (e' := { e with a := r, b := r + 1, s := r + 1 + 1 }) rfl rfl rfl rfl
      injection hg2 with hg2; injection hg2 with hg2
      subst hg2
      rw [List.set_set] at o2
      have hm3 : ((markT q L i).set i { e with a := r, b := r + 1, s := r + 1 + 1 })[i]? = some { e with a := r, b := r + 1, s := r + 1 + 1 } := by rw [List.getElem?_set_self (by rw [markT_length]; exact hlt)]
      obtain ⟨g3, hg3, _, c3, f3, _⟩ := o2.put hm3 (j := 3) (by omega) (v := .slice e.A e.x.length e.c) (u := .slice e.A e.x.length e.c) (e' := { e with a := r, b := r + 1, s := r + 1 + 1 }) rfl rfl rfl rfl
      injection hg3 with hg3; injection hg3 with hg3
      subst hg3
      have O2 := hid o2
      have M3 := hid hm3
      have W2 := hid (((hW.out.setCell (p := ⟨g, i * 4, none⟩) hgB (.int .i64 r)).setCell (p := ⟨g, i * 4 + 1, none⟩) hgB (.int .i64 (r + 1))).setCell (p := ⟨g, i * 4 + 2, none⟩) hgB (.int .i64 (r + 1 + 1)))
      obtain ⟨g5', hg5', _, C0, F0, _⟩ := hO.out.put hme (j := 0) (by omega) (v := .int .i64 e.a) (u := .int .i64 e.a) (e' := e) rfl rfl rfl rfl
      injection hg5' with hg5'; injection hg5' with hg5'
      subst hg5'
      obtain ⟨g6', hg6', _, C1, F1, _⟩ := hO.out.put hme (j := 1) (by omega) (v := .int .i64 e.b) (u := .int .i64 e.b) (e' := e) rfl rfl rfl rfl
      injection hg6' with hg6'; injection hg6' with hg6'
      subst hg6'
      obtain ⟨g7', hg7', _, C2, F2, _⟩ := hO.out.put hme (j := 2) (by omega) (v := .int .i64 e.s) (u := .int .i64 e.s) (e' := e) rfl rfl rfl rfl
      injection hg7' with hg7'; injection hg7' with hg7'
      subst hg7'
      obtain ⟨g8', hg8', _, C3, F3, _⟩ := hO.out.put hme (j := 3) (by omega) (v := .slice e.A e.x.length e.c) (u := .slice e.A e.x.length e.c) (e' := e) rfl rfl rfl rfl
      injection hg8' with hg8'; injection hg8' with hg8'
      subst hg8'
      rw [Nat.add_zero] at C0 F0 O2
      clear hO o0 o1 o2 hm1 hm2 hm3 hme c0 c1 c2 c3 f0 f1 f2 f3
      have O4 := hid (O2.out.own i _ M3.out)
      have hel2 : e.x.length ≤ 1048576 := hel
      go_wp2_with (go_at_call 60; refine (markInt64S_any e.A e.c B e.x (r + 1 + 1 + 1) _ O4.out hel2 (by omega) (by omega)).mono ?_; rintro en w3 ⟨rfl, ho, ht⟩)
      have O5 := hid (O2.out.counts M3.out ht (e' := e.mark r) ho (by simp [Lay.cells, Lay.mark, marks_length]) rfl (by simp [Lay.mark, marks_length]))
      have W5 := hid (W2.out.trans (ht.below O4.out))
      have O6 : Hid (OwnC w3 B (some ⟨g, 0, none⟩) (markT q L (i + 1))) := by
        have h := O5.out
        rw [List.set_set, hstep.out] at h
        exact h
      exact ⟨⟨i + 1, by omega, by go_num, by rw [hend.out]; congr 1; omega, O6, W5⟩, by simp [intOf]; omega⟩
    · have hil : ¬ (i : Int) < (L.length : Int) := by omega
      obtain rfl : i = L.length := by omega
      go_wp2
      go_ret
      exact ⟨rfl, hO.out, hW.out⟩
set_option maxRecDepth 100000 in
set_option maxHeartbeats 1600000 in
theorem heldCellsS_yes (A : Option Addr) (c : Nat) (L : List Lay) (q : Int) (w : World) (hx : RdC w A (markT q L L.length)) (hn : L.length ≤ 256) (hl : ∀ e ∈ L, e.x.length ≤ 1048576) (hq0 : 0 ≤ q) (hq1 : q + offL L L.length ≤ 1000000000) :
    Calls Try.prog 38 #[.slice A L.length c, .int .i64 q] w fun e w' => e = .returned (.int .i64 (q + offL L L.length)) ∧ w = w' := by
  have HX := hid hx
  have HL := hid hl
  clear hx hl
  go_enter Try.func38, Try.ntmps38
  go_wp2
  go_loop [1, 5] (fun t j => ∃ i : Nat, i ≤ L.length ∧ j = .int .i64 i ∧ t = .int .i64 (q + offL L i)) (fun _ j => L.length - (intOf j).toNat)
  case atStart => exact ⟨0, Nat.zero_le _, rfl, by simp [offL]⟩
  case round =>
    obtain ⟨i, hi, rfl, rfl⟩ := hrel
    by_cases hlt : i < L.length
    · have hil : (i : Int) < (L.length : Int) := by omega
      have hi0 : (0 : Int) ≤ (i : Int) := by omega
      obtain ⟨e, he⟩ : ∃ e, L[i]? = some e := ⟨_, List.getElem?_eq_getElem hlt⟩
      have hel := HL.out e (List.mem_of_getElem? he)
      have hoff := offL_succ he
      have hge := offL_ge L i
      have hmono : offL L (i + 1) ≤ offL L L.length := offL_mono L hlt
      have hme : (markT q L L.length)[i]? = some (e.mark (q + offL L i)) := by rw [markT_at he, if_pos hlt]
      obtain ⟨r, hr⟩ : ∃ r, r = q + offL L i := ⟨_, rfl⟩
      have hr0 : 0 ≤ r := by omega
      have hr1 : r + 3 + (e.x.length : Int) ≤ 1000000000 := by omega
      have hend : Hid (q + offL L (i + 1) = r + 3 + (e.x.length : Int)) := by show _ = _; omega
      rw [← hr] at hme ⊢
      clear hr hoff hge hmono he
      obtain ⟨⟨g, o, rfl, C0, C1, C2, C3⟩, hrd⟩ := HX.out i _ hme
      have HRD := hid hrd
      have C3' : w.cell? ⟨g, o + i * 4 + 3, none⟩ = some (.slice e.A e.x.length e.c) := by rw [C3]; simp [Lay.mark, marks_length]
      have C0' : w.cell? ⟨g, o + i * 4, none⟩ = some (.int .i64 r) := C0
      have C1' : w.cell? ⟨g, o + i * 4 + 1, none⟩ = some (.int .i64 (r + 1)) := C1
      have C2' : w.cell? ⟨g, o + i * 4 + 2, none⟩ = some (.int .i64 (r + 1 + 1)) := C2
      have hp : ¬ r + 1 + 1 + 1 + (e.x.length : Int) < 0 := by omega
      clear hrd C0 C1 C2 C3 hme
      go_wp2_with (go_at_call 61; refine (heldInt64S_yes e.A e.x.length e.c (r + 1 + 1 + 1) _ HRD.out hel (by omega) (by omega)).mono ?_; rintro en w3 ⟨rfl, rfl⟩)
      exact ⟨⟨i + 1, by omega, by go_num, by rw [hend.out]; congr 1; omega⟩, by simp [intOf]; omega⟩
    · have hil : ¬ (i : Int) < (L.length : Int) := by omega
      obtain rfl : i = L.length := by omega
      go_wp2
      go_ret
      exact ⟨rfl, rfl⟩
set_option maxRecDepth 100000 in
set_option maxHeartbeats 1600000 in
theorem eqCellsS_yes (A A' : Option Addr) (c c' : Nat) (L L' : List Lay) (w : World) (hx : RdC w A L) (hy : RdC w A' L') (hp : L.map Lay.plain = L'.map Lay.plain) (hn : L.length ≤ 1048576) (hl : ∀ e ∈ L, e.x.length ≤ 1048576) :
    Calls Try.prog 36 #[.slice A L.length c, .slice A' L'.length c'] w fun e w' => e = .returned (.bool true) ∧ Below w.heap.size w w' := by
  have HX := hid hx
  have HY := hid hy
  have HL := hid hl
  have hlen : L'.length = L.length := by have := congrArg List.length hp; simpa using this.symm
  have HP := hid hp
  clear hx hl hy hp
  rw [hlen]
  have HLEN := hid hlen
  clear hlen
  go_enter Try.func36, Try.ntmps36
  go_wp2
  go_loopw [5] (fun j wr => ∃ i : Nat, i ≤ L.length ∧ j = .int .i64 i ∧ Hid (Below w.heap.size w wr)) (fun j _ => L.length - (intOf j).toNat)
  case atStart => exact ⟨0, Nat.zero_le _, rfl, Below.refl _ _⟩
  case round =>
    obtain ⟨i, hi, rfl, hW⟩ := hrel
    by_cases hlt : i < L.length
    · have hil : (i : Int) < (L.length : Int) := by omega
      have hi0 : (0 : Int) ≤ (i : Int) := by omega
      obtain ⟨e, he⟩ : ∃ e, L[i]? = some e := ⟨_, List.getElem?_eq_getElem hlt⟩
      obtain ⟨e', he'⟩ : ∃ e', L'[i]? = some e' := ⟨_, List.getElem?_eq_getElem (by rw [HLEN.out]; exact hlt)⟩
      have hpe : e.plain = e'.plain := by
        have h := congrArg (fun l => l[i]?) HP.out
        simp only [List.getElem?_map, he, he', Option.map_some] at h
        injection h
      have hel := HL.out e (List.mem_of_getElem? he)
      obtain ⟨⟨g, o, rfl, a0, a1, a2, a3⟩, hrd⟩ := (HX.out.below hW.out) i _ he
      obtain ⟨⟨g', o', rfl, b0, b1, b2, b3⟩, hrd'⟩ := (HY.out.below hW.out) i _ he'
      obtain ⟨ea, eb, es, eA, ec, ex⟩ := e
      obtain ⟨ea', eb', es', eA', ec', ex'⟩ := e'
      simp only [Lay.plain, Prod.mk.injEq] at hpe
      obtain ⟨rfl, rfl, rfl, rfl⟩ := hpe
      simp only at a0 a1 a2 a3 b0 b1 b2 b3 hel
      have R1 := hid hrd
      have R2 := hid hrd'
      have hS := And.intro a0 (And.intro a1 (And.intro a2 (And.intro a3 (And.intro b0 (And.intro b1 (And.intro b2 b3))))))
      clear hrd hrd' he he' a0 a1 a2 a3 b0 b1 b2 b3
      have hS0 := hS
      obtain ⟨a0, a1, a2, a3, b0, b1, b2, b3⟩ := hS
      go_wp2
      have hS := hS0
      clear hS0
      go_region_held3 (fun w' => w'.cell? ⟨g, o + i * 4, none⟩ = some (.int .i64 ea) ∧ w'.cell? ⟨g, o + i * 4 + 1, none⟩ = some (.int .i64 eb) ∧ w'.cell? ⟨g, o + i * 4 + 2, none⟩ = some (.int .i64 es) ∧ w'.cell? ⟨g, o + i * 4 + 3, none⟩ = some (.slice eA ex.length ec) ∧
          w'.cell? ⟨g', o' + i * 4, none⟩ = some (.int .i64 ea) ∧ w'.cell? ⟨g', o' + i * 4 + 1, none⟩ = some (.int .i64 eb) ∧ w'.cell? ⟨g', o' + i * 4 + 2, none⟩ = some (.int .i64 es) ∧ w'.cell? ⟨g', o' + i * 4 + 3, none⟩ = some (.slice eA' ex.length ec'))
        (first | go_keep | exact hS)
        (first
          | (go_at_call 25
             refine (eqCells_yes ea eb es eA eA' ex.length ec ec' ex _ rfl (R1.out.drewN 1) (R2.out.drewN 1) hel).mono ?_
             rintro en w2 ⟨rfl, hb⟩
             have hb := below_drew' hb
             have W2 := hid (hW.out.trans (hb.mono hW.out.size))
             have hS := And.intro (cell_below' hS.1 hb) (And.intro (cell_below' hS.2.1 hb) (And.intro (cell_below' hS.2.2.1 hb) (And.intro (cell_below' hS.2.2.2.1 hb) (And.intro (cell_below' hS.2.2.2.2.1 hb) (And.intro (cell_below' hS.2.2.2.2.2.1 hb) (And.intro (cell_below' hS.2.2.2.2.2.2.1 hb) (cell_below' hS.2.2.2.2.2.2.2 hb)))))))
             clear hb))
      go_wp2
      exact ⟨⟨i + 1, by omega, by go_num, W2⟩, by simp [intOf]; omega⟩
    · have hil : ¬ (i : Int) < (L.length : Int) := by omega
      go_wp2
      go_ret
      exact ⟨rfl, hW.out⟩
end Go.Proofs.Ytnngepnfljkbhaa
