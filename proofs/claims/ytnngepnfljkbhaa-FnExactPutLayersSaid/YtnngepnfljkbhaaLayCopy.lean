/-
  The laws' helpers over a slice of cells that came in: size, copy: by contracts.
-/
import Derived.Test.YtnngepnfljkbhaaLayApp
import Derived.Test.YtnngepnfljkbhaaLayLaw
import Derived.Laws.MakeOwn
namespace Go.Proofs.Ytnngepnfljkbhaa
open Go.RowKit
set_option linter.unusedVariables false
set_option linter.unusedSimpArgs false

def zeroLay : Lay := ⟨0, 0, 0, none, 0, []⟩
theorem made_four (n : Nat) : (madeCells #[.int .i64 0, .int .i64 0, .int .i64 0, .slice none 0 0] (n * 4)).toList = flatL (List.replicate n zeroLay) := by
  apply List.ext_getElem?
  intro k
  by_cases hk : k < n * 4
  · have h1 : (List.replicate n zeroLay)[k / 4]? = some zeroLay := by rw [List.getElem?_replicate, if_pos (by omega)]
    have h2 := flatL_at h1 (j := k % 4) (by omega)
    rw [show 4 * (k / 4) + k % 4 = k by omega] at h2
    rw [h2, Array.getElem?_toList]
    have h3 : k % 4 = 0 ∨ k % 4 = 1 ∨ k % 4 = 2 ∨ k % 4 = 3 := by omega
    unfold madeCells
    rw [Array.getElem?_map, Array.getElem?_range, if_pos hk]
    simp only [Option.map_some]
    rcases h3 with h3 | h3 | h3 | h3 <;> simp [h3, zeroLay, Lay.cells]
  · rw [List.getElem?_eq_none (by simp [size_madeCells]; omega), List.getElem?_eq_none (by rw [flatL_length, List.length_replicate]; omega)]
/-- Element i, written whole. -/
theorem OwnC.put4 {w : World} {B : Nat} {A : Option Addr} {L : List Lay} (h : OwnC w B A L) {i : Nat} {e : Lay} (he : L[i]? = some e) (e' : Lay) (ho : OwnS (Value.int .i64) w B 2 e'.A e'.x)
    (hap : ∀ (j : Nat) (f : Lay), j ≠ i → L[j]? = some f → Apart f.A f.x.length e'.A e'.x.length) :
    ∃ g, A = some ⟨g, 0, none⟩ ∧ B ≤ g ∧ w.frozen? ⟨g, i * 4, none⟩ = false ∧ w.frozen? ⟨g, i * 4 + 1, none⟩ = false ∧ w.frozen? ⟨g, i * 4 + 2, none⟩ = false ∧ w.frozen? ⟨g, i * 4 + 3, none⟩ = false ∧
      w.cell? ⟨g, i * 4, none⟩ = some (.int .i64 e.a) ∧ w.cell? ⟨g, i * 4 + 1, none⟩ = some (.int .i64 e.b) ∧ w.cell? ⟨g, i * 4 + 2, none⟩ = some (.int .i64 e.s) ∧ w.cell? ⟨g, i * 4 + 3, none⟩ = some (.slice e.A e.x.length e.c) ∧
      OwnC ((((w.setCell ⟨g, i * 4, none⟩ (.int .i64 e'.a)).setCell ⟨g, i * 4 + 1, none⟩ (.int .i64 e'.b)).setCell ⟨g, i * 4 + 2, none⟩ (.int .i64 e'.s)).setCell ⟨g, i * 4 + 3, none⟩ (.slice e'.A e'.x.length e'.c)) B A (L.set i e') := by
  have hne : L ≠ [] := by rintro rfl; simp at he
  obtain ⟨g, ex, rfl, hB, hb⟩ := h.blk hne
  have hlt : i < L.length := (List.getElem?_eq_some_iff.1 he).1
  have hc : ∀ j u, j < 4 → e.cells[j]? = some u → w.cell? ⟨g, i * 4 + j, none⟩ = some u := fun j u hj hu => hb.cell (by rw [Nat.mul_comm i 4, List.getElem?_append_left (by rw [flatL_length]; omega), flatL_at he hj, hu])
  have hla : ∀ e'' : Lay, (L.set i e'')[i]? = some e'' := fun e'' => by simp [hlt]
  have b1 := hb.set_ (4 * i + 0) (.int .i64 e'.a)
  rw [List.set_append_left _ _ (by rw [flatL_length]; omega), flatL_set he (j := 0) (by omega) (u := .int .i64 e'.a) (e' := { e with a := e'.a }) rfl] at b1
  have b2 := b1.set_ (4 * i + 1) (.int .i64 e'.b)
  rw [List.set_append_left _ _ (by rw [flatL_length, List.length_set]; omega), flatL_set (hla { e with a := e'.a }) (j := 1) (by omega) (u := .int .i64 e'.b) (e' := { e with a := e'.a, b := e'.b }) rfl, List.set_set] at b2
  have b3 := b2.set_ (4 * i + 2) (.int .i64 e'.s)
  rw [List.set_append_left _ _ (by rw [flatL_length, List.length_set]; omega), flatL_set (hla { e with a := e'.a, b := e'.b }) (j := 2) (by omega) (u := .int .i64 e'.s) (e' := { e with a := e'.a, b := e'.b, s := e'.s }) rfl, List.set_set] at b3
  have b4 := b3.set_ (4 * i + 3) (.slice e'.A e'.x.length e'.c)
  rw [List.set_append_left _ _ (by rw [flatL_length, List.length_set]; omega), flatL_set (hla { e with a := e'.a, b := e'.b, s := e'.s }) (j := 3) (by omega) (u := .slice e'.A e'.x.length e'.c) (e' := e') rfl, List.set_set] at b4
  rw [Nat.add_zero, Nat.mul_comm 4 i] at b4
  have so : ∀ {A : Option Addr} {xs : List Int}, OwnS (Value.int .i64) w B 2 A xs → OwnS (Value.int .i64) ((((w.setCell ⟨g, i * 4, none⟩ (.int .i64 e'.a)).setCell ⟨g, i * 4 + 1, none⟩ (.int .i64 e'.b)).setCell ⟨g, i * 4 + 2, none⟩ (.int .i64 e'.s)).setCell ⟨g, i * 4 + 3, none⟩ (.slice e'.A e'.x.length e'.c)) B 2 A xs := by
    intro A xs hs
    rw [Nat.add_zero, Nat.mul_comm 4 i] at b1 b2 b3
    exact (((hs.setOther hb (by decide) _ _).setOther b1 (by decide) _ _).setOther b2 (by decide) _ _).setOther b3 (by decide) _ _
  refine ⟨g, rfl, hB, hb.frozen _, hb.frozen _, hb.frozen _, hb.frozen _, by have := hc 0 _ (by omega) rfl; rwa [Nat.add_zero] at this, hc 1 _ (by omega) rfl, hc 2 _ (by omega) rfl, hc 3 _ (by omega) rfl, ⟨fun _ => ⟨g, ex, rfl, hB, b4⟩, fun k f hk => ?_, fun k l f f' hkl hk hl => ?_⟩⟩
  · by_cases hki : k = i
    · subst hki
      rw [hla] at hk
      injection hk with hk
      subst hk
      exact so ho
    · rw [List.getElem?_set_ne (fun q => hki q.symm)] at hk
      exact so (h.own k f hk)
  · by_cases hki : k = i
    · subst hki
      rw [hla] at hk
      injection hk with hk
      subst hk
      rw [List.getElem?_set_ne hkl] at hl
      exact Apart.symm (hap l f' (fun q => hkl q.symm) hl)
    · rw [List.getElem?_set_ne (fun q => hki q.symm)] at hk
      by_cases hli : l = i
      · subst hli
        rw [hla] at hl
        injection hl with hl
        subst hl
        exact hap k f hki hk
      · rw [List.getElem?_set_ne (fun q => hli q.symm)] at hl
        exact h.apart k l f f' hkl hk hl
/-- The sum of the lengths of the first n. -/
def lenL (L : List Lay) : Nat → Int
  | 0 => 0
  | n + 1 => lenL L n + (match L[n]? with | some e => (e.x.length : Int) | none => 0)
theorem lenL_succ {L : List Lay} {n : Nat} {e : Lay} (h : L[n]? = some e) : lenL L (n + 1) = lenL L n + (e.x.length : Int) := by simp [lenL, h]
theorem lenL_mono (L : List Lay) {i j : Nat} (h : i ≤ j) : lenL L i ≤ lenL L j := by
  induction j with
  | zero => have : i = 0 := by omega
            subst this; exact Int.le_refl _
  | succ j ih =>
    rcases Nat.lt_or_ge i (j + 1) with h1 | h1
    · have := ih (by omega)
      have h2 : lenL L j ≤ lenL L (j + 1) := by
        simp only [lenL]
        cases L[j]? with
        | none => exact Int.le_of_eq (by simp)
        | some v => exact Int.le_add_of_nonneg_right (Int.natCast_nonneg v.x.length)
      omega
    · have : i = j + 1 := by omega
      subst this; exact Int.le_refl _
theorem lenL_mem {L : List Lay} {M : Int} (h : lenL L L.length ≤ M) : ∀ e ∈ L, (e.x.length : Int) ≤ M := by
  intro e he
  obtain ⟨i, hi, rfl⟩ := List.mem_iff_getElem.1 he
  have h1 := lenL_succ (List.getElem?_eq_getElem hi)
  have h2 := lenL_mono L (show i + 1 ≤ L.length by omega)
  have h3 := lenL_mono L (show 0 ≤ i by omega)
  simp only [lenL] at h3
  omega
set_option maxRecDepth 100000 in
set_option maxHeartbeats 1600000 in
theorem szCellsS_any (A : Option Addr) (c : Nat) (L : List Lay) (w : World) (hx : RdC w A L) (hn : L.length ≤ 9223372036854775807) (hl : ∀ e ∈ L, e.x.length ≤ 9223372036854775807) :
    Calls Try.prog 54 #[.slice A L.length c, .int .i64 1048576] w fun e w' => e = .returned (.int .i64 (if (L.length : Int) + lenL L L.length ≤ 1048576 then 1048576 - (L.length : Int) - lenL L L.length else -1)) ∧ Below w.heap.size w w' := by
  have HX := hid hx
  have HL := hid hl
  clear hx hl
  obtain ⟨R, hR⟩ : ∃ R, R = (if (L.length : Int) + lenL L L.length ≤ 1048576 then 1048576 - (L.length : Int) - lenL L L.length else -1) := ⟨_, rfl⟩
  rw [← hR]
  have HR := hid hR
  clear hR
  have h0 := lenL_mono L (Nat.zero_le L.length)
  simp only [lenL] at h0
  by_cases hn2 : (L.length : Int) ≤ 1048576
  · have hlt0 : ¬ 1048576 - (L.length : Int) < 0 := by omega
    have hwr0 : IntKind.i64.wrap (1048576 - (L.length : Int)) = 1048576 - (L.length : Int) := by rw [IntKind.wrap_i64]; omega
    go_enter Try.func54, Try.ntmps54
    go_wp2
    go_loopw [1, 5] (fun t j wr => ∃ i : Nat, i ≤ L.length ∧ j = .int .i64 i ∧ t = .int .i64 (1048576 - (L.length : Int) - lenL L i) ∧ Hid (0 ≤ 1048576 - (L.length : Int) - lenL L i) ∧ Hid (Below w.heap.size w wr)) (fun _ j _ => L.length - (intOf j).toNat)
    case atStart => exact ⟨0, Nat.zero_le _, rfl, by simp [lenL], by show 0 ≤ 1048576 - (L.length : Int) - lenL L 0; simp only [lenL]; omega, Below.refl _ _⟩
    case round =>
      obtain ⟨i, hi, rfl, rfl, hh, hW⟩ := hrel
      by_cases hlt : i < L.length
      · have hil : (i : Int) < (L.length : Int) := by omega
        have hi0 : (0 : Int) ≤ (i : Int) := by omega
        obtain ⟨e, he⟩ : ∃ e, L[i]? = some e := ⟨_, List.getElem?_eq_getElem hlt⟩
        have hel := HL.out e (List.mem_of_getElem? he)
        have hoff := lenL_succ he
        have hm1 := lenL_mono L (show i + 1 ≤ L.length by omega)
        have hm0 := lenL_mono L (Nat.zero_le i)
        simp only [lenL] at hm0
        obtain ⟨⟨g, o, rfl, a0, a1, a2, a3⟩, _⟩ := (HX.out.below hW.out) i e he
        obtain ⟨r, hr⟩ : ∃ r, r = 1048576 - (L.length : Int) - lenL L i := ⟨_, rfl⟩
        have hr0 : 0 ≤ r := by have := hh.out; omega
        have hr1 : r ≤ 1048576 := by omega
        have hend : Hid (1048576 - (L.length : Int) - lenL L (i + 1) = r - (e.x.length : Int)) := by show _ = _; omega
        have hfin : Hid (lenL L (i + 1) ≤ lenL L L.length ∧ r = 1048576 - (L.length : Int) - lenL L i ∧ lenL L (i + 1) = lenL L i + (e.x.length : Int)) := ⟨hm1, hr, hoff⟩
        rw [← hr]
        clear hr hoff hm1 hm0 he hh h0
        by_cases hfit : (e.x.length : Int) ≤ r
        · have hp : ¬ r - (e.x.length : Int) < 0 := by omega
          go_wp2_with (go_at_call 21; refine (szCells_yes e.a e.b e.s e.A e.x.length e.c r _ hr0 hr1 hfit).mono ?_; rintro en w2 ⟨rfl, hb⟩)
          exact ⟨⟨i + 1, by omega, by go_num, by rw [hend.out], by show 0 ≤ _; rw [hend.out]; omega, hW.out.trans (hb.mono hW.out.size)⟩, by simp [intOf]; omega⟩
        · go_wp2_with (go_at_call 21; refine (szCells_no e.a e.b e.s e.A e.x.length e.c r _ hr0 hr1 hel (by omega)).mono ?_; rintro en w2 ⟨rfl, hb⟩)
          go_ret
          exact ⟨ret_int (by rw [HR.out, if_neg (by have := hfin.out; omega)]), hW.out.trans (hb.mono hW.out.size)⟩
      · have hil : ¬ (i : Int) < (L.length : Int) := by omega
        obtain rfl : i = L.length := by omega
        go_wp2
        go_ret
        exact ⟨ret_int (by rw [HR.out, if_pos (by have := hh.out; omega)]), hW.out⟩
  · have hlt0 : 1048576 - (L.length : Int) < 0 := by omega
    have hwr0 : IntKind.i64.wrap (1048576 - (L.length : Int)) = 1048576 - (L.length : Int) := by rw [IntKind.wrap_i64]; omega
    go_enter Try.func54, Try.ntmps54
    go_wp2
    go_ret
    exact ⟨ret_int (by rw [HR.out, if_neg (by omega)]), Below.refl _ _⟩
set_option maxRecDepth 100000 in
set_option maxHeartbeats 1600000 in
theorem toCellsS_any (A : Option Addr) (c : Nat) (L : List Lay) (w : World) (hx : RdC w A L) (hn : L.length ≤ 1048576) (hl : ∀ e ∈ L, e.x.length ≤ 1048576) :
    Calls Try.prog 56 #[.slice A L.length c] w fun e w' => ∃ g L', e = .returned (.slice (some ⟨g, 0, none⟩) L.length L.length) ∧ List.length L' = L.length ∧ L'.map Lay.plain = L.map Lay.plain ∧ OwnC w' w.heap.size (some ⟨g, 0, none⟩) L' ∧ Below w.heap.size w w' := by
  obtain ⟨i0, hi0, hz0, hz1, hz2⟩ := info_parts Try.infoC
  have HX := hid hx
  have HL := hid hl
  clear hx hl
  have hmk : ∀ w : World, (Instr.makeSlice 53 (.int .i64 (L.length : Int)) (.int .i64 (L.length : Int))).run Try.prog w = .ok (.slice (some ⟨w.heap.size, 0, none⟩) L.length L.length) (w.alloc (.cells (madeCells #[.int .i64 0, .int .i64 0, .int .i64 0, .slice none 0 0] (L.length * 4)) 41)) := fun w => by
    have h := run_make (P := Try.prog) w 53 41 i0 (.agg #[.int .i64 0, .int .i64 0, .int .i64 0, .slice none 0 0]) Try.underlying53 hi0 hz0 .i64 .i64 (L.length : Int) (L.length : Int) (by omega) (by omega) (by rw [hz2]; omega) (by omega)
    rw [hz1] at h
    simp only [Int.toNat_natCast] at h
    exact h
  obtain ⟨w0, hw0⟩ : ∃ w0, w0 = w.alloc (.cells (madeCells #[.int .i64 0, .int .i64 0, .int .i64 0, .slice none 0 0] (L.length * 4)) 41) := ⟨_, rfl⟩
  have O0 : Hid (OwnC w0 w.heap.size (some ⟨w.heap.size, 0, none⟩) (List.replicate L.length zeroLay)) := by
    rw [hw0]
    refine ⟨fun _ => ⟨w.heap.size, [], rfl, Nat.le_refl _, ?_⟩, fun i e he => ?_, fun i j e e' _ he he' => ?_⟩
    · rw [List.append_nil, ← made_four]
      have := Blk.new w 41 (madeCells #[.int .i64 0, .int .i64 0, .int .i64 0, .slice none 0 0] (L.length * 4)).toList
      simpa using this
    · rw [List.getElem?_replicate] at he
      split at he
      · injection he with he; subst he; exact OwnS.nil
      · cases he
    · rw [List.getElem?_replicate] at he
      split at he
      · injection he with he; subst he; exact .inl rfl
      · cases he
  have S0 : Hid (Below w.heap.size w w0) := by rw [hw0]; exact below_a1 _ _
  go_enter Try.func56, Try.ntmps56
  go_wp2_with (simp only [hmk])
  rw [← hw0]
  clear hw0 hmk
  go_loopw [4] (fun j wr => ∃ i : Nat, i ≤ L.length ∧ j = .int .i64 i ∧ ∃ C : List Lay, Hid (C.map Lay.plain = (L.take i).map Lay.plain) ∧ Hid (OwnC wr w.heap.size (some ⟨w.heap.size, 0, none⟩) (C ++ List.replicate (L.length - i) zeroLay)) ∧ Hid (Below w.heap.size w wr)) (fun j _ => L.length - (intOf j).toNat)
  case atStart => exact ⟨0, Nat.zero_le _, rfl, [], rfl, O0, S0⟩
  case round =>
    obtain ⟨i, hi, rfl, C, hC, hO, hW⟩ := hrel
    have hCl : C.length = i := by have := congrArg List.length hC.out; simp at this; omega
    by_cases hlt : i < L.length
    · have hil : (i : Int) < (L.length : Int) := by omega
      have hi0 : (0 : Int) ≤ (i : Int) := by omega
      obtain ⟨e, he⟩ : ∃ e, L[i]? = some e := ⟨_, List.getElem?_eq_getElem hlt⟩
      have hel := HL.out e (List.mem_of_getElem? he)
      obtain ⟨⟨g, o, rfl, a0, a1, a2, a3⟩, hrd⟩ := (HX.out.below hW.out) i e he
      have HE := hid he
      have RD := hid hrd
      have HCL := hid hCl
      clear he hrd hCl
      go_wp2_with fail
      refine (toCells_any e.a e.b e.s e.A e.c e.x _ RD.out hel).mono ?_
      rintro en w2 ⟨g3, rfl, hg3, hb3, hb⟩
      have OE : Hid (OwnS (Value.int .i64) w2 wr.heap.size 2 (some ⟨g3, 0, none⟩) e.x) := OwnS.of_blk hb3 hg3
      have O2 := hid (hO.out.below hb)
      have W2 := hid (hW.out.trans (hb.mono hW.out.size))
      have hmz : (C ++ List.replicate (L.length - i) zeroLay)[i]? = some zeroLay := by
        have := HCL.out
        rw [List.getElem?_append_right (by omega), List.getElem?_replicate, if_pos (by omega)]
      obtain ⟨g', hg', hgB, f0, f1, f2, f3, q0, q1, q2, q3, O3⟩ := O2.out.put4 hmz ⟨e.a, e.b, e.s, some ⟨g3, 0, none⟩, e.x.length, e.x⟩ (OE.out.mono hW.out.size) (fun j f hj hf => OwnS.apart_lt (hO.out.own j f hf) OE.out (Nat.le_refl _))
      injection hg' with hg'; injection hg' with hg'
      subst hg'
      have hset : (C ++ List.replicate (L.length - i) zeroLay).set i ⟨e.a, e.b, e.s, some ⟨g3, 0, none⟩, e.x.length, e.x⟩ = (C ++ [⟨e.a, e.b, e.s, some ⟨g3, 0, none⟩, e.x.length, e.x⟩]) ++ List.replicate (L.length - (i + 1)) zeroLay := by
        have := HCL.out
        rw [List.set_append_right _ _ (by omega), show i - C.length = 0 by omega, show L.length - i = (L.length - (i + 1)) + 1 by omega, List.replicate_succ, List.set_cons_zero, List.append_assoc]; rfl
      rw [hset] at O3
      have O4 := hid O3
      have W4 := hid ((((W2.out.setCell (p := ⟨w.heap.size, i * 4, none⟩) (Nat.le_refl _) (.int .i64 e.a)).setCell (p := ⟨w.heap.size, i * 4 + 1, none⟩) (Nat.le_refl _) (.int .i64 e.b)).setCell (p := ⟨w.heap.size, i * 4 + 2, none⟩) (Nat.le_refl _) (.int .i64 e.s)).setCell (p := ⟨w.heap.size, i * 4 + 3, none⟩) (Nat.le_refl _) (.slice (some ⟨g3, 0, none⟩) e.x.length e.x.length))
      have hC2 : Hid ((C ++ [(⟨e.a, e.b, e.s, some ⟨g3, 0, none⟩, e.x.length, e.x⟩ : Lay)]).map Lay.plain = (L.take (i + 1)).map Lay.plain) := by
        show _ = _
        rw [List.take_add_one, HE.out, List.map_append, List.map_append, hC.out]; rfl
      clear hset O3 hmz hb hb3 hg3 a0 a1 a2 a3
      go_wp2
      exact ⟨⟨i + 1, by omega, by go_num, _, hC2, O4, W4⟩, by simp [intOf]; omega⟩
    · have hil : ¬ (i : Int) < (L.length : Int) := by omega
      obtain rfl : i = L.length := by omega
      go_wp2
      go_ret
      have hO2 := hO.out
      rw [Nat.sub_self, List.replicate_zero, List.append_nil] at hO2
      have hC2 := hC.out
      rw [List.take_length] at hC2
      exact ⟨w.heap.size, rfl, C, hCl, hC2, hO2, hW.out⟩
end Go.Proofs.Ytnngepnfljkbhaa
