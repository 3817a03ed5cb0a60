/-
  The library's stable sort of integers, by contract, whatever the comparing function makes: ranges swapped, rotation, merging by halves, blocks.
-/
import Derived.Test.YtbodfepfapjikaaStabP
import Derived.Test.YtbodfepfapjikaaApp
import Derived.Test.YtbodfepfapjikaaQuietB
import Derived.Deep.QuietTactic
import Derived.Deep.RegionLaw
import Derived.BigRegion
import Derived.Shelf.Abstract
namespace Go.Proofs.Ytbodfepfapjikaa
open Go.RowKit Go.Shelf
set_option linter.unusedVariables false
set_option linter.unusedSimpArgs false

/-- Below B all but block g stands. -/
structure Bes (g B : Nat) (w w' : World) : Prop where
  os : w'.os = w.os
  tape : w'.tape = w.tape
  output : w'.output = w.output
  size : w.heap.size ≤ w'.heap.size
  block : ∀ k, k < B → k ≠ g → w'.heap[k]? = w.heap[k]?
section
variable {g B : Nat} {w w' w'' : World}
theorem Bes.refl (g B : Nat) (w : World) : Bes g B w w := ⟨rfl, rfl, rfl, Nat.le_refl _, fun _ _ _ => rfl⟩
theorem Bes.trans (h : Bes g B w w') (k : Bes g B w' w'') : Bes g B w w'' := ⟨k.os.trans h.os, k.tape.trans h.tape, k.output.trans h.output, Nat.le_trans h.size k.size, fun i h1 h2 => (k.block i h1 h2).trans (h.block i h1 h2)⟩
theorem Bes.below (h : Below w.heap.size w w') (hB : B ≤ w.heap.size) : Bes g B w w' := ⟨h.os, h.tape, h.output, h.size, fun i h1 _ => h.block i (Nat.lt_of_lt_of_le h1 hB)⟩
theorem Bes.set_ (h : Bes g B w w') (i : Nat) (u : Value) : Bes g B w (w'.setCell ⟨g, i, none⟩ u) :=
  h.trans ⟨rfl, rfl, rfl, by simp, fun k _ hk => Below.heap_setCell w' ⟨g, i, none⟩ u k hk⟩
theorem Bes.drew1 (h : Bes g B w w') : Bes g B w w'.drew := ⟨h.os, h.tape, h.output, h.size, h.block⟩
theorem Bes.drewN (h : Bes g B w w') (n : Nat) : Bes g B w (w'.drewN n) := ⟨h.os, h.tape, h.output, h.size, h.block⟩
end
/-- Block g holds the integers x, and something behind them. -/
def Dat (w : World) (g : Nat) (ex : List Value) (x : List Int) : Prop := Blk w g 2 (x.map (Value.int .i64) ++ ex)
section
variable {g B : Nat} {w w' : World} {ex : List Value} {x : List Int}
theorem Dat.at_ (h : Dat w g ex x) {i : Nat} {u : Int} (hi : x[i]? = some u) : w.cell? ⟨g, i, none⟩ = some (.int .i64 u) ∧ w.frozen? ⟨g, i, none⟩ = false := by
  refine ⟨Blk.cell h ?_, Blk.frozen h i⟩
  have hl : i < x.length := (List.getElem?_eq_some_iff.1 hi).1
  rw [List.getElem?_append_left (by simpa using hl), List.getElem?_map, hi]; rfl
theorem Dat.set_ (h : Dat w g ex x) {i : Nat} (hi : i < x.length) (u : Int) : Dat (w.setCell ⟨g, i, none⟩ (.int .i64 u)) g ex (x.set i u) := by
  have h1 := Blk.set_ h i (.int .i64 u)
  unfold Dat
  rw [List.map_set, ← List.set_append_left _ _ (by simpa using hi)]
  exact h1
theorem Dat.below (h : Dat w g ex x) (hb : Below w.heap.size w w') : Dat w' g ex x := Blk.below h hb
theorem Dat.drew1 (h : Dat w g ex x) : Dat w.drew g ex x := h
theorem Dat.drewN (h : Dat w g ex x) (n : Nat) : Dat (w.drewN n) g ex x := h
theorem Dat.two (h : Dat w g ex x) {i j : Nat} {u v : Int} {y : List Int} (hi : i < x.length) (hj : j < x.length) (hy : (x.set i v).set j u = y) : Dat ((w.setCell ⟨g, i, none⟩ (.int .i64 v)).setCell ⟨g, j, none⟩ (.int .i64 u)) g ex y := by
  have h1 := (h.set_ hi v).set_ (i := j) (by simpa using hj) u
  rwa [hy] at h1
end
/-- What the sort's parts leave. -/
def RetD (g B : Nat) (ex : List Value) (w : World) (x : List Int) (e : Ending) (w' : World) : Prop := e = .returned (.tuple #[]) ∧ Dat w' g ex x ∧ Bes g B w w'
set_option maxRecDepth 100000 in
set_option maxHeartbeats 1600000 in
theorem swapRange_any (g B c N a b n : Nat) (ex : List Value) (A U M V C : List Int) (fv : Value) (w : World) (hU : Hid (U.length = n)) (hV : Hid (V.length = n)) (ha : Hid (A.length = a)) (hb : Hid (a + n + M.length = b)) (hN : b + n ≤ N) (hN2 : N ≤ 1048576)
    (hab : a + n ≤ b) (hD : Dat w g ex (A ++ (U ++ (M ++ (V ++ C))))) :
    Calls Try.prog 170 #[.slice (some ⟨g, 0, none⟩) N c, .int .i64 a, .int .i64 b, .int .i64 n, fv] w (RetD g B ex w (A ++ (V ++ (M ++ (U ++ C))))) := by
  have D0 : Hid (Dat w g ex (srL A U M V C 0)) := by show Dat _ _ _ _; rw [srL_zero]; exact hD
  clear hD
  go_enter Try.func170, Try.ntmps170
  go_wp2
  go_loopw [10] (fun t wr => ∃ k : Nat, k ≤ n ∧ t = .int .i64 k ∧ Hid (Dat wr g ex (srL A U M V C k)) ∧ Hid (Bes g B w wr)) (fun t _ => n - (intOf t).toNat)
  case atStart => exact ⟨0, Nat.zero_le _, rfl, D0, Bes.refl _ _ _⟩
  case round =>
    obtain ⟨k, hk, rfl, hD, hW⟩ := hrel
    by_cases hlt : k < n
    · have hi : (k : Int) < (n : Int) := by omega
      obtain ⟨u, v, h1, h2, h3⟩ := srL_one (A := A) (B := M) (C := C) hU.out hV.out hlt
      have hl := srL_length (A := A) (B := M) (C := C) hU.out hV.out hk
      have ha' := ha.out
      have hb' := hb.out
      rw [ha', hb'] at h2 h3
      rw [ha'] at h1
      obtain ⟨i1, hi1⟩ : ∃ i1, i1 = a + k := ⟨_, rfl⟩
      obtain ⟨j1, hj1⟩ : ∃ j1, j1 = b + k := ⟨_, rfl⟩
      rw [← hi1] at h1 h3
      rw [← hj1] at h2 h3
      obtain ⟨c1, f1⟩ := hD.out.at_ h1
      obtain ⟨c2, f2⟩ := hD.out.at_ h2
      have H3 : Hid (Dat ((wr.setCell ⟨g, i1, none⟩ (.int .i64 v)).setCell ⟨g, j1, none⟩ (.int .i64 u)) g ex (srL A U M V C (k + 1))) := hD.out.two (by omega) (by omega) h3
      have v1 : IntKind.i64.wrap ((a : Int) + (k : Int)) = (i1 : Int) := by rw [IntKind.wrap_i64]; omega
      have v2 : IntKind.i64.wrap ((b : Int) + (k : Int)) = (j1 : Int) := by rw [IntKind.wrap_i64]; omega
      have b1 : (i1 : Int) < (N : Int) := by omega
      have b2 : (j1 : Int) < (N : Int) := by omega
      have b3 : i1 ≠ j1 := by omega
      have b4 : j1 ≠ i1 := by omega
      clear h1 h2 h3 hl ha' hb' hi1 hj1 hD
      go_wp2
      go_big_region
      go_wp2
      exact ⟨⟨k + 1, by omega, by go_num, H3.out.drew1, ((hW.out.set_ i1 _).set_ j1 _).drew1⟩, by simp [intOf]; omega⟩
    · have hi : ¬ (k : Int) < (n : Int) := by omega
      obtain rfl : k = n := by omega
      have h5 : Hid (Dat wr g ex (A ++ (V ++ (M ++ (U ++ C))))) := by have h6 := hD.out; rw [srL_all hU.out hV.out] at h6; exact h6
      clear hD
      go_wp2
      go_end0
      exact ⟨rfl, h5.out, hW.out⟩
set_option maxRecDepth 100000 in
set_option maxHeartbeats 1600000 in
theorem rotate_any (g B c N a m b : Nat) (ex : List Value) (A U V C : List Int) (fv : Value) (w : World) (ha : Hid (A.length = a)) (hm : Hid (a + U.length = m)) (hb : Hid (m + V.length = b)) (hN : b ≤ N) (hN2 : N ≤ 1048576) (hU : 0 < U.length) (hV : 0 < V.length)
    (hD : Dat w g ex (A ++ (U ++ (V ++ C)))) :
    Calls Try.prog 164 #[.slice (some ⟨g, 0, none⟩) N c, .int .i64 a, .int .i64 m, .int .i64 b, fv] w (RetD g B ex w (A ++ (V ++ (U ++ C)))) := by
  have D0 := hid hD
  obtain ⟨T, hT⟩ : ∃ T, T = A ++ (V ++ (U ++ C)) := ⟨_, rfl⟩
  rw [← hT]
  have T0 := hid hT.symm
  obtain ⟨i0, hi0⟩ : ∃ i0, i0 = U.length := ⟨_, rfl⟩
  obtain ⟨j0, hj0⟩ : ∃ j0, j0 = V.length := ⟨_, rfl⟩
  have I0 := hid hi0.symm
  have J0 := hid hj0.symm
  have e1 : IntKind.i64.wrap ((m : Int) - (a : Int)) = (i0 : Int) := by have := hm.out; rw [IntKind.wrap_i64]; have := hb.out; omega
  have e2 : IntKind.i64.wrap ((b : Int) - (m : Int)) = (j0 : Int) := by have := hb.out; rw [IntKind.wrap_i64]; have := hm.out; omega
  have hA : Hid (A.length + i0 = m) := by show _ = _; have := hm.out; have := ha.out; omega
  have hB : Hid (m + j0 = b) := by show _ = _; have := hb.out; omega
  have hbb : m ≤ N := by have := hb.out; omega
  have hi00 : 0 < i0 := by omega
  have hj00 : 0 < j0 := by omega
  clear hD hT hi0 hj0 hm hb ha hU hV
  go_enter Try.func164, Try.ntmps164
  go_wp2
  clear e1 e2
  go_loopw [10, 11] (fun ti tj wr => ∃ (i j : Nat) (P U' V' S : List Int), ti = .int .i64 i ∧ tj = .int .i64 j ∧ 0 < i ∧ 0 < j ∧ i ≤ m ∧ m + j ≤ b ∧ Hid (U'.length = i) ∧ Hid (V'.length = j) ∧ Hid (P.length + i = m) ∧ Hid (P ++ (V' ++ (U' ++ S)) = T) ∧ Hid (Dat wr g ex (P ++ (U' ++ (V' ++ S)))) ∧ Hid (Bes g B w wr)) (fun ti tj _ => (intOf ti).toNat + (intOf tj).toNat)
  case atStart => exact ⟨i0, j0, A, U, V, C, rfl, rfl, hi00, hj00, by have := hA.out; omega, by have := hB.out; omega, I0, J0, hA, T0, D0, Bes.refl _ _ _⟩
  case round =>
    obtain ⟨i, j, P, U', V', S, rfl, rfl, hip, hjp, him, hmj, hUl, hVl, hP, hTT, hD, hW⟩ := hrel
    have v0 : IntKind.i64.wrap ((m : Int) - (i : Int)) = ((m - i : Nat) : Int) := by rw [IntKind.wrap_i64]; omega
    by_cases hij : i = j
    · subst hij
      have hne : ((i : Int) != (i : Int)) = false := by simp
      have C1 : Hid (Calls Try.prog 170 #[.slice (some ⟨g, 0, none⟩) N c, .int .i64 ((m - i : Nat) : Int), .int .i64 m, .int .i64 i, fv] wr (RetD g B ex wr (P ++ (V' ++ ([] ++ (U' ++ S)))))) :=
        swapRange_any g B c N (m - i) m i ex P U' [] V' S fv wr hUl hVl (by show _ = _; have := hP.out; omega) (by show _ = _; simp; omega) (by omega) hN2 (by omega) hD.out
      clear hUl hVl hP hD
      go_wp2_with (go_at_call 170; (with_reducible refine C1.out.mono ?_); rintro e w1 ⟨rfl, hD1, hW1⟩)
      go_end0
      exact ⟨rfl, by rw [← hTT.out]; exact hD1, hW.out.trans hW1⟩
    · have hne : ((i : Int) != (j : Int)) = true := by simp; omega
      by_cases hgt : j < i
      · have hgti : (j : Int) < (i : Int) := by omega
        have C1 : Hid (Calls Try.prog 170 #[.slice (some ⟨g, 0, none⟩) N c, .int .i64 ((m - i : Nat) : Int), .int .i64 m, .int .i64 j, fv] wr (RetD g B ex wr (P ++ (V' ++ (U'.drop j ++ (U'.take j ++ S)))))) :=
          swapRange_any g B c N (m - i) m j ex P (U'.take j) (U'.drop j) V' S fv wr (by show _ = _; have := hUl.out; simp; omega) hVl (by show _ = _; have := hP.out; omega) (by show _ = _; have := hUl.out; simp; omega) (by omega) hN2 (by omega) (by have h := hD.out; rw [← List.take_append_drop j U', List.append_assoc] at h; exact h)
        have e3 : IntKind.i64.wrap ((i : Int) - (j : Int)) = ((i - j : Nat) : Int) := by rw [IntKind.wrap_i64]; omega
        have n1 : Hid ((U'.drop j).length = i - j) := by show _ = _; rw [List.length_drop, hUl.out]
        have n2 : Hid ((U'.take j).length = j) := by show _ = _; rw [List.length_take, hUl.out]; omega
        have n3 : Hid ((P ++ V').length + (i - j) = m) := by show _ = _; rw [List.length_append, hVl.out]; have := hP.out; omega
        have n4 : Hid ((P ++ V') ++ (U'.take j ++ (U'.drop j ++ S)) = T) := by show _ = _; rw [← hTT.out, ← List.append_assoc (U'.take j), List.take_append_drop, List.append_assoc]
        clear hUl hVl hP hD hTT hij
        go_wp2_with (go_at_call 170; (with_reducible refine C1.out.mono ?_); rintro e w1 ⟨rfl, hD1, hW1⟩)
        have D1 : Hid (Dat w1 g ex ((P ++ V') ++ (U'.drop j ++ (U'.take j ++ S)))) := by show Dat _ _ _ _; rw [List.append_assoc]; exact hD1
        exact ⟨⟨i - j, j, P ++ V', U'.drop j, U'.take j, S, rfl, rfl, by omega, hjp, by omega, hmj, n1, n2, n3, n4, D1, hW.out.trans hW1⟩, by simp [intOf]; omega⟩
      · have hgti : ¬ (j : Int) < (i : Int) := by omega
        have C1 : Hid (Calls Try.prog 170 #[.slice (some ⟨g, 0, none⟩) N c, .int .i64 ((m - i : Nat) : Int), .int .i64 ((m + j - i : Nat) : Int), .int .i64 i, fv] wr (RetD g B ex wr (P ++ (V'.drop (j - i) ++ (V'.take (j - i) ++ (U' ++ S)))))) :=
          swapRange_any g B c N (m - i) (m + j - i) i ex P U' (V'.take (j - i)) (V'.drop (j - i)) S fv wr hUl (by show _ = _; have := hVl.out; simp; omega) (by show _ = _; have := hP.out; omega) (by show _ = _; have := hVl.out; simp; omega) (by omega) hN2 (by omega) (by have h := hD.out; rw [← List.take_append_drop (j - i) V', List.append_assoc (V'.take (j - i))] at h; exact h)
        have e3 : IntKind.i64.wrap ((j : Int) - (i : Int)) = ((j - i : Nat) : Int) := by rw [IntKind.wrap_i64]; omega
        have n1 : Hid ((V'.drop (j - i)).length = i) := by show _ = _; rw [List.length_drop, hVl.out]; omega
        have n2 : Hid ((V'.take (j - i)).length = j - i) := by show _ = _; rw [List.length_take, hVl.out]; omega
        have n4 : Hid (P ++ (V'.take (j - i) ++ (V'.drop (j - i) ++ (U' ++ S))) = T) := by show _ = _; rw [← hTT.out, ← List.append_assoc (V'.take (j - i)), List.take_append_drop]
        have e4 : IntKind.i64.wrap ((m : Int) + (j : Int)) = (m : Int) + (j : Int) := by rw [IntKind.wrap_i64]; omega
        have e5 : IntKind.i64.wrap ((m : Int) + (j : Int) - (i : Int)) = ((m + j - i : Nat) : Int) := by rw [IntKind.wrap_i64]; omega
        have hij' : i < j := by omega
        clear hUl hVl hD hTT hij
        go_wp2_with (go_at_call 170; (with_reducible refine C1.out.mono ?_); rintro e w1 ⟨rfl, hD1, hW1⟩)
        clear e3 e4 e5 v0
        exact ⟨⟨i, j - i, P, V'.drop (j - i), V'.take (j - i), U' ++ S, rfl, rfl, hip, by omega, him, by omega, n1, n2, hP, n4, hD1, hW.out.trans hW1⟩, by simp [intOf]; omega⟩
/-- What is asked of the comparing function, in all worlds that differ from w0, below B, in block g alone. -/
structure CmpOk (f : Nat) (cb : Array Value) (g B : Nat) (w0 : World) (E : Int → Prop) (cf : Int → Int → Int) : Prop where
  enters : ∀ args w, (callFunc f args).run Try.prog w = .ok (.enter f args) w
  room : B ≤ w0.heap.size
  call : ∀ w, Bes g B w0 w → ∀ u v, E u → E v → Calls Try.prog f (#[.int .i64 u, .int .i64 v] ++ cb) w fun e w' => e = .returned (.int .i64 (cf u v)) ∧ Below w.heap.size w w'
def ltC (cf : Int → Int → Int) (u v : Int) : Bool := decide (cf u v < 0)
theorem app_at {α : Type} {A Y : List α} {a i j : Nat} (ha : A.length = a) (hi : i = a + j) : (A ++ Y)[i]? = Y[j]? := by
  subst ha hi
  rw [List.getElem?_append_right (by omega), Nat.add_sub_cancel_left]
theorem app_set {α : Type} {A Y : List α} {a i j : Nat} {v : α} (ha : A.length = a) (hi : i = a + j) : (A ++ Y).set i v = A ++ Y.set j v := by
  subst ha hi
  rw [List.set_append_right _ _ (by omega), Nat.add_sub_cancel_left]
theorem isrt_sub {lt : Int → Int → Bool} : ∀ (l : List Int) {z : Int}, z ∈ isrt lt l → z ∈ l := by
  intro l
  suffices h : ∀ (l a : List Int) (z : Int), z ∈ l.foldl (insR lt) a → z ∈ l ∨ z ∈ a by
    intro z hz
    rcases h l [] z hz with h | h
    · exact h
    · simp at h
  intro l
  induction l with
  | nil => intro a z hz; exact .inr hz
  | cons y l ih =>
    intro a z hz
    rcases ih _ z hz with h | h
    · exact .inl (List.mem_cons_of_mem _ h)
    · unfold insR at h
      rcases List.mem_append.1 h with h | h
      · exact .inr (List.mem_of_mem_take h)
      · rcases List.mem_cons.1 h with h | h
        · subst h; exact .inl List.mem_cons_self
        · exact .inr (List.mem_of_mem_drop h)
theorem Bes.call {g B : Nat} {w w' w'' : World} (h : Bes g B w w') (hb : Below w'.heap.size w' w'') (hB : B ≤ w.heap.size) : Bes g B w w'' := h.trans (Bes.below hb (Nat.le_trans hB h.size))
set_option maxRecDepth 100000 in
set_option maxHeartbeats 3200000 in
theorem insertion_any (g B c N a b f : Nat) (cb : Array Value) (ex : List Value) (A X C : List Int) (cf : Int → Int → Int) (E : Int → Prop) (w0 w : World) (hc : CmpOk f cb g B w0 E cf) (hw : Bes g B w0 w) (hE : ∀ y ∈ X, E y)
    (ha : Hid (A.length = a)) (hb : Hid (a + X.length = b)) (hN : b ≤ N) (hN2 : N ≤ 1048576) (hD : Dat w g ex (A ++ (X ++ C))) :
    Calls Try.prog 151 #[.slice (some ⟨g, 0, none⟩) N c, .int .i64 a, .int .i64 b, .func (.func f) #[] cb] w (RetD g B ex w (A ++ (isrt (ltC cf) X ++ C))) := by
  have HC := hid hc
  have eg := hc.enters
  have ha1 : a ≤ b := by have := hb.out; omega
  have W0 := hid hw
  have HE := hid hE
  have D0 : Hid (Dat w g ex (A ++ (isrt (ltC cf) (X.take 1) ++ (X.drop 1 ++ C)))) := by
    show Dat _ _ _ _
    have e : isrt (ltC cf) (X.take 1) = X.take 1 := by cases X <;> simp [isrt, insR, posR]
    rw [e, ← List.append_assoc (X.take 1), List.take_append_drop]; exact hD
  clear hc hw hE hD
  go_enter Try.func151, Try.ntmps151
  go_wp2
  go_loopw [8] (fun t wr => ∃ k i : Nat, 0 < k ∧ (k ≤ X.length ∨ X.length = 0) ∧ i = a + k ∧ t = .int .i64 i ∧ Hid (Dat wr g ex (A ++ (isrt (ltC cf) (X.take k) ++ (X.drop k ++ C)))) ∧ Hid (Bes g B w wr)) (fun t _ => b - (intOf t).toNat)
  case atStart => exact ⟨1, a + 1, by omega, by omega, rfl, by go_num, D0, Bes.refl _ _ _⟩
  case round =>
    obtain ⟨k, i, hk, hkX, hik, rfl, hD, hW⟩ := hrel
    have hb' := hb.out
    by_cases hlt : i < b
    · have hi : (i : Int) < (b : Int) := by omega
      obtain ⟨y, hy⟩ : ∃ y, X[k]? = some y := ⟨_, List.getElem?_eq_getElem (by omega)⟩
      have hEy := HE.out y (List.mem_of_getElem? hy)
      have hlen := isrt_take_length (ltC cf) (l := X) (k := k) (by omega)
      have hd : X.drop k = y :: X.drop (k + 1) := by
        obtain ⟨h, rfl⟩ := List.getElem?_eq_some_iff.1 hy
        exact List.drop_eq_getElem_cons h
      have hnext := hid (isrt_at (lt := ltC cf) hy)
      have hEL : Hid (∀ z ∈ isrt (ltC cf) (X.take k), E z) := fun z hz => by
        exact HE.out z (List.mem_of_mem_take (isrt_sub _ hz))
      obtain ⟨L, hL⟩ : ∃ L, L = isrt (ltC cf) (X.take k) := ⟨_, rfl⟩
      obtain ⟨rest, hrest⟩ : ∃ r, r = X.drop (k + 1) ++ C := ⟨_, rfl⟩
      rw [← hL] at hlen hnext hEL
      have O2 : Hid (Dat wr g ex (A ++ midR L y k rest)) := by
        have h2 := hD.out
        rw [hd, ← hL, List.cons_append, ← hrest] at h2
        have h3 := midR_top L y rest
        rw [hlen] at h3
        rw [h3]; exact h2
      have HREST := hid hrest
      have HLEN := hid hlen
      have HIK := hid hik
      have hik1 : i ≤ a + k ∧ a + k ≤ i := by omega
      have HY := hid hEy
      clear hD hd hL hrest hlen hy hik hEy
      go_wp2
      go_loopw [9] (fun t wq => ∃ j p : Nat, j ≤ k ∧ p = a + j ∧ t = .int .i64 p ∧ Hid (posR (ltC cf) y L j = posR (ltC cf) y L L.length) ∧ Hid (Dat wq g ex (A ++ midR L y j rest)) ∧ Hid (Bes g B w wq)) (fun t _ => (intOf t).toNat)
      case atStart => exact ⟨k, i, Nat.le_refl _, HIK.out, rfl, by have := HLEN.out; show _ = _; rw [this], O2, hW⟩
      case round =>
        obtain ⟨j, p, hj, hpj, rfl, hpos, hOq, hWq⟩ := hrel
        cases j with
        | zero =>
          have hgd : decide (a < p) = false := decide_eq_false (by omega)
          have hgd' : ¬ a < p := by omega
          have hfin : Hid (Dat wr g ex (A ++ (isrt (ltC cf) (X.take (k + 1)) ++ (X.drop (k + 1) ++ C)))) := by
            show Dat _ _ _ _
            have h := hOq.out
            rw [midR_end (lt := ltC cf) (by rw [← hpos.out]; rfl), HREST.out, ← hnext.out] at h
            exact h
          clear hpj hOq
          go_wp2
          go_quiet (fail)
          go_wp2
          exact ⟨⟨k + 1, i + 1, by omega, by omega, by omega, by go_num, hfin, hWq.out.drewN _⟩, by simp [intOf]; omega⟩
        | succ j =>
          obtain ⟨z, hz⟩ : ∃ z, L[j]? = some z := ⟨_, List.getElem?_eq_getElem (by have := HLEN.out; omega)⟩
          have hEz := hEL.out z (List.mem_of_getElem? hz)
          have hlj : j ≤ L.length ∧ j + 1 ≤ L.length := by have := HLEN.out; omega
          obtain ⟨q, hq⟩ : ∃ q, q = a + j := ⟨_, rfl⟩
          have h1 : (A ++ midR L y (j + 1) rest)[p]? = some y := by rw [app_at ha.out hpj]; exact midR_at hlj.2
          have h2 : (A ++ midR L y (j + 1) rest)[q]? = some z := by rw [app_at ha.out hq]; exact midR_below hz
          have h3 : ((A ++ midR L y (j + 1) rest).set p z).set q y = A ++ midR L y j rest := by rw [app_set ha.out hpj, app_set ha.out hq, midR_swap hz]
          obtain ⟨c1, f1⟩ := hOq.out.at_ h1
          obtain ⟨c2, f2⟩ := hOq.out.at_ h2
          have l1 := (List.getElem?_eq_some_iff.1 h1).1
          have l2 := (List.getElem?_eq_some_iff.1 h2).1
          have hgd : decide (a < p) = true := decide_eq_true (by omega)
          have hgd' : a < p := by omega
          have e6 : IntKind.i64.wrap ((p : Int) - 1) = (q : Int) := by rw [IntKind.wrap_i64]; omega
          have b1 : (p : Int) < (N : Int) := by omega
          have b2 : (q : Int) < (N : Int) := by omega
          have b3 : p ≠ q := by omega
          have b4 : q ≠ p := by omega
          have hqp : q < p := by omega
          have CC : Hid (∀ w', Bes g B w w' → Calls Try.prog f (#[.int .i64 y, .int .i64 z] ++ cb) w' fun e w'' => e = .returned (.int .i64 (cf y z)) ∧ Below w'.heap.size w' w'') := fun w' h => HC.out.call w' (W0.out.trans h) y z HY.out hEz
          have HSW : Hid (∀ w', Dat w' g ex (A ++ midR L y (j + 1) rest) → Dat ((w'.setCell ⟨g, p, none⟩ (.int .i64 z)).setCell ⟨g, q, none⟩ (.int .i64 y)) g ex (A ++ midR L y j rest)) := fun w' h => h.two l1 l2 h3
          have hgo := posR_go (lt := ltC cf) (x := y) hz
          have hst := posR_stop (lt := ltC cf) (x := y) hz
          obtain ⟨v, hv⟩ : ∃ v, v = cf y z := ⟨_, rfl⟩
          rw [← hv] at CC
          have hltv : ltC cf y z = decide (v < 0) := by rw [hv]; rfl
          rw [hltv] at hgo hst
          have HQ := hid hq
          have HP := hid hpj
          have H1 := hid h1
          have H2 := hid h2
          clear h1 h2 h3 l1 l2 hv hltv hz hlj hq hpj hEz
          have k1 : ∀ p', (behind wr p').cell? ⟨g, p, none⟩ = some (.int .i64 y) := cell_behind c1
          have k2 : ∀ p', (behind wr p').cell? ⟨g, q, none⟩ = some (.int .i64 z) := cell_behind c2
          have CB : Hid (∀ p', Calls Try.prog f (#[.int .i64 y, .int .i64 z] ++ cb) (behind wr p') fun e w'' => e = .returned (.int .i64 v) ∧ ∃ q : BehindBy, w'' = behind wr q) := fun p' => calls_behind (CC.out _ (hWq.out.call (behind_below wr p') (Nat.le_trans HC.out.room W0.out.size)))
          clear c1 c2 f1 f2 CC
          by_cases hvz : v < 0
          · have hp2 : Hid (posR (ltC cf) y L j = posR (ltC cf) y L L.length) := by show _ = _; rw [← hpos.out, hgo (decide_eq_true hvz)]
            clear hgo hst
            go_wp2
            refine wp_region_quiet_below (by kernel_rfl) (by kernel_rfl) ?_
            repeat (quiet_step ((go_at_fn f; exact CB.out _)))
            refine wpQuiet_nil ?_
            intro w3 hw3
            have hbb := behind_all hw3
            have O3 := hid (hOq.out.below hbb)
            have W3 := hid (hWq.out.call hbb (Nat.le_trans HC.out.room W0.out.size))
            obtain ⟨m1, g1⟩ := O3.out.at_ H1.out
            obtain ⟨m2, g2⟩ := O3.out.at_ H2.out
            have DN := hid (HSW.out w3 O3.out)
            clear hbb hw3 k1 k2 hOq HSW
            go_wp2
            go_big_region
            go_wp2
            exact ⟨⟨j, q, by omega, HQ.out, by go_num, hp2, DN.out.drew1, ((W3.out.set_ p _).set_ q _).drew1⟩, by simp [intOf]; omega⟩
          · have hfin : Hid (∀ w', Dat w' g ex (A ++ midR L y (j + 1) rest) → Dat w' g ex (A ++ (isrt (ltC cf) (X.take (k + 1)) ++ (X.drop (k + 1) ++ C)))) := fun w' h => by
              rw [midR_end (lt := ltC cf) (by rw [← hpos.out]; exact hst (decide_eq_false hvz)), HREST.out, ← hnext.out] at h
              exact h
            clear hgo hst
            go_wp2
            refine wp_region_quiet_below (by kernel_rfl) (by kernel_rfl) ?_
            repeat (quiet_step ((go_at_fn f; exact CB.out _)))
            refine wpQuiet_nil ?_
            intro w3 hw3
            have hbb := behind_all hw3
            have O3 := hid (hfin.out _ (hOq.out.below hbb))
            have W3 := hid (hWq.out.call hbb (Nat.le_trans HC.out.room W0.out.size))
            clear hbb hw3 k1 k2 hOq HSW hfin
            go_wp2
            exact ⟨⟨k + 1, i + 1, by omega, by omega, by omega, by go_num, O3, W3⟩, by simp [intOf]; omega⟩
    · have hi : ¬ (i : Int) < (b : Int) := by omega
      have hfin : Hid (Dat wr g ex (A ++ (isrt (ltC cf) X ++ C))) := by
        show Dat _ _ _ _
        have h := hD.out
        rw [List.take_of_length_le (by omega), List.drop_of_length_le (by omega), List.nil_append] at h
        exact h
      clear hD hik hb'
      go_wp2
      go_end0
      exact ⟨rfl, hfin.out, hW.out⟩
end Go.Proofs.Ytbodfepfapjikaa
