/-
  The first cell of two houses with a number: reference and program, by contracts.
-/
import Derived.Test.YtnngepnfljkbhaaFinger
import Derived.Test.YtnngepnfljkbhaaPutSieve
namespace Go.Proofs.Ytnngepnfljkbhaa
open Go.RowKit
set_option linter.unusedVariables false

/-- The first one of the listed places at which v lies. -/
def findAt (x : List Int) (v : Int) (l : List Int) : Option Int := l.find? fun p => x.getD p.toNat 0 == v
theorem findAt_hit {x : List Int} {v : Int} {l : List Int} {k m : Nat} (h : Hid (findAt x v (l.take k) = none)) (hl : Hid (l[k]? = some (m : Int))) (hx : Hid (x[m]? = some v)) : findAt x v l = some (m : Int) := by
  have hk : k < l.length := by
    rcases Nat.lt_or_ge k l.length with h1 | h1
    · exact h1
    · have := hl.out; rw [List.getElem?_eq_none h1] at this; cases this
  have h1 := hl.out
  rw [List.getElem?_eq_getElem hk] at h1
  injection h1 with h1
  have h2 : x.getD m 0 = v := by rw [List.getD_eq_getElem?_getD, hx.out, Option.getD_some]
  unfold findAt
  rw [← List.take_append_drop k l, List.find?_append, show List.find? (fun p => x.getD p.toNat 0 == v) (l.take k) = none from h.out, List.drop_eq_getElem_cons hk, h1, List.find?_cons]
  simp only [Int.toNat_natCast, h2, beq_self_eq_true, Option.none_or]
theorem findAt_miss {x : List Int} {v u : Int} {l : List Int} {k m : Nat} (h : Hid (findAt x v (l.take k) = none)) (hl : Hid (l[k]? = some (m : Int))) (hx : Hid (x[m]? = some u)) (hu : (u == v) = false) : findAt x v (l.take (k + 1)) = none := by
  have h2 : x.getD m 0 = u := by rw [List.getD_eq_getElem?_getD, hx.out, Option.getD_some]
  unfold findAt
  rw [List.take_add_one, List.find?_append, show List.find? (fun p => x.getD p.toNat 0 == v) (l.take k) = none from h.out, hl.out]
  simp only [Option.toList_some, List.find?_cons, Int.toNat_natCast, h2, hu, List.find?_nil, Option.none_or]
theorem findAt_append {x : List Int} {v : Int} {l l' : List Int} : findAt x v (l ++ l') = (findAt x v l).or (findAt x v l') := List.find?_append
theorem findAt_some {x : List Int} {v p : Int} {l : List Int} (h : findAt x v l = some p) : p ∈ l ∧ x.getD p.toNat 0 = v := ⟨List.mem_of_find?_eq_some h, by have := List.find?_some h; simpa using this⟩
/-- The cells of a house. -/
def houseL (h : Nat) : List Int := [2 * (h : Int), 2 * (h : Int) + 1]
theorem houseL_mem {h n : Nat} (hh : h < n / 2) : ∀ p ∈ houseL h, ∃ m : Nat, p = m ∧ m < n := fun p hp => by
  simp only [houseL, List.mem_cons, List.not_mem_nil, or_false] at hp
  rcases hp with rfl | rfl
  · exact ⟨2 * h, by omega, by omega⟩
  · exact ⟨2 * h + 1, by omega, by omega⟩

theorem below_undrew {B m : Nat} {w w' : World} (h : Below B (w.drewN m) w') : Below B w w' := ⟨h.os, h.tape, h.output, h.size, h.block⟩
theorem below_drewX {B m : Nat} {w w' : World} (h : Below B w w') : Below B w (w'.drewN m) := ⟨h.os, h.tape, h.output, h.size, h.block⟩
set_option maxRecDepth 100000 in
set_option maxHeartbeats 800000 in
theorem l04Find_any (p s c finger house : Nat) (v : Int) (A : Option Addr) (x : List Int) (w : World) (hb : Blk w p 62 [.int .i64 s, .slice A x.length c]) (hx : RdL (Value.int .i64) w A x) (hs : s < 4294967296) (hk : finger < 4294967296) (hp : isPow (x.length : Int)) (hn2 : 2 ≤ x.length) (hn : x.length ≤ 256) (hh : house < x.length / 2) :
    Calls Try.prog 99 #[.pointer (some ⟨p, 0, none⟩), .int .i64 finger, .int .i64 house, .int .i64 v] w fun e w' => e = .returned (.int .i64 ((findAt x v (houseL house ++ houseL (otherN finger house s x.length))).getD (-1))) ∧ Below w.heap.size w w' := by
  have HX := hid hx
  have HB := hid hb
  have ho := otherN_lt (finger := finger) (s := s) hp hh hn
  obtain ⟨o, hoe⟩ : ∃ o, o = otherN finger house s x.length := ⟨_, rfl⟩
  obtain ⟨P, hP⟩ : ∃ P, P = houseL house ++ houseL o := ⟨_, rfl⟩
  have hmem : Hid (∀ q ∈ P, ∃ m : Nat, q = m ∧ m < x.length) := fun q hq => by
    rw [hP, List.mem_append] at hq
    rcases hq with hq | hq
    · exact houseL_mem hh q hq
    · exact houseL_mem (by omega) q hq
  have hPl : P.length = 4 := by rw [hP]; rfl
  obtain ⟨k0, k1⟩ := hb.cells2
  rw [← hoe, ← hP]
  rw [← hoe] at ho
  have HOE := hid hoe
  have HPE := hid hP
  clear hx hb hoe hP hp
  go_enter Try.func99, Try.ntmps99
  go_wp2_with fail
  refine (l04Other_any p s x.length c finger house A _ k0 k1 hs hk hn2 hn (by omega)).mono ?_
  rw [← HOE.out]
  rintro e w1 ⟨rfl, m, rfl⟩
  have RP : Hid (RdL (Value.int .i64) ((w.drewN m).alloc (.cells #[.int .i64 (2 * (house : Int)), .int .i64 (2 * (house : Int) + 1), .int .i64 (2 * (o : Int)), .int .i64 (2 * (o : Int) + 1)] 2)) (some ⟨w.heap.size, 0, none⟩) P) := by
    rw [HPE.out]
    exact Blk.rd0 (f := Value.int .i64) (Blk.new (w.drewN m) 2 [.int .i64 (2 * (house : Int)), .int .i64 (2 * (house : Int) + 1), .int .i64 (2 * (o : Int)), .int .i64 (2 * (o : Int) + 1)])
  clear HPE k0 k1
  go_wp2
  go_loopw [11] (fun i wr => ∃ k : Nat, k ≤ 4 ∧ i = .int .i64 k ∧ Hid (RdL (Value.int .i64) wr (some ⟨w.heap.size, 0, none⟩) P) ∧ Hid (Below w.heap.size w wr) ∧ Hid (findAt x v (P.take k) = none)) (fun i _ => 4 - (intOf i).toNat)
  case atStart => exact ⟨0, by omega, rfl, RP, below_undrew (below_a1 (w.drewN m) _), rfl⟩
  case round =>
    obtain ⟨k, hk4, rfl, hR, hW, hnone⟩ := hrel
    by_cases hlt : k < 4
    · have hi : (k : Int) < (4 : Int) := by omega
      obtain ⟨b1, o1, q, hA1, hcq, hqk⟩ := hR.out.at_ (k := k) (by omega)
      injection hA1 with hA1; injection hA1 with hA1 hA2
      subst hA1 hA2
      rw [Nat.zero_add] at hcq
      obtain ⟨n, rfl, hnx⟩ := hmem.out q (List.mem_of_getElem? hqk.out)
      obtain ⟨b, o, u, rfl, hcu, hun⟩ := (HX.out.below hW.out).at_ hnx
      obtain ⟨k0, k1⟩ := (HB.out.below hW.out).cells2
      have hi1 : (n : Int) < (x.length : Int) := by omega
      have hi0 : (0 : Int) ≤ (n : Int) := by omega
      cases huv : (u == v) with
      | true =>
        have he : Hid (findAt x v P = some (n : Int)) := findAt_hit hnone hqk (by rw [← beq_iff_eq.1 huv]; exact hun)
        clear k0
        go_wp2
        go_quiet (fail)
        go_wp2
        go_ret
        exact ⟨ret_int (by rw [he.out]; rfl), below_drewX hW.out⟩
      | false =>
        have he : Hid (findAt x v (P.take (k + 1)) = none) := findAt_miss hnone hqk hun huv
        clear k0
        go_wp2
        go_quiet (fail)
        go_wp2
        exact ⟨⟨k + 1, by omega, by go_num, hR, below_drewX hW.out, he⟩, by simp [intOf]; omega⟩
    · have hi : ¬ (k : Int) < (4 : Int) := by omega
      have he := hnone.out
      rw [List.take_of_length_le (by omega)] at he
      have HE := hid he
      clear he
      go_wp2
      go_ret
      exact ⟨ret_int (by rw [HE.out]; rfl), hW.out⟩
/-- Whether the finger of a key lies in one of its cells. -/
def pInFingers (s : Int) (x : List Int) (key : Int) : Bool × Bool :=
  if (vFingers s x && inB key 0 4294967295) = true then ((findAt x (fingerN key.toNat s.toNat) (houseL (houseN key.toNat s.toNat x.length) ++ houseL (otherN (fingerN key.toNat s.toNat) (houseN key.toNat s.toNat x.length) s.toNat x.length))).isSome, true) else (false, false)
theorem vFingers_iff {s : Int} {x : List Int} (h : vFingers s x = true) : (0 ≤ s ∧ s ≤ 4294967295) ∧ (isPow (x.length : Int) ∧ 2 ≤ x.length ∧ x.length ≤ 256) ∧ ∀ y ∈ x, 0 ≤ y ∧ y ≤ 255 := by
  simp only [vFingers, Bool.and_eq_true, inB_iff, powB, decide_eq_true_eq] at h
  obtain ⟨⟨h1, ⟨⟨h0, h2⟩, h3⟩⟩, h4⟩ := h
  refine ⟨h1, ⟨h0, by omega, by omega⟩, fun y hy => ?_⟩
  unfold allB at h4
  rw [List.all_eq_true] at h4
  exact inB_iff.1 (h4 y hy)
theorem findAt_ge {x : List Int} {v : Int} {l : List Int} (hl : ∀ p ∈ l, 0 ≤ p) : decide (0 ≤ (findAt x v l).getD (-1)) = (findAt x v l).isSome := by
  cases h : findAt x v l with
  | none => rfl
  | some p => simp [hl p (findAt_some h).1]
theorem houses_nonneg {h o : Nat} : ∀ p ∈ houseL h ++ houseL o, 0 ≤ p := fun p hp => by
  simp only [houseL, List.mem_cons, List.not_mem_nil, or_false, List.mem_append] at hp
  omega
end Go.Proofs.Ytnngepnfljkbhaa
