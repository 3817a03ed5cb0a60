/-
  The middle one of a list: the reference's l03Middle, by contract.
-/
import Derived.Test.YtbodfepfapjikaaDiff
import Derived.Test.YtbodfepfapjikaaIns
namespace Go.Proofs.Ytbodfepfapjikaa
open Go.RowKit
set_option linter.unusedVariables false
set_option linter.unusedSimpArgs false

def ltI (a b : Int) : Bool := decide (a < b)
/-- The middle one. -/
def medI (x : List Int) : Int := (isrt ltI x).getD ((x.length - 1) / 2) 0
theorem medI_at (x : List Int) (hp : 0 < x.length) : (isrt ltI x)[(x.length - 1) / 2]? = some (medI x) := by
  unfold medI
  rw [List.getD_eq_getElem?_getD]
  have h : (x.length - 1) / 2 < (isrt ltI x).length := by rw [isrt_length]; omega
  rw [List.getElem?_eq_getElem h]; rfl

set_option maxRecDepth 100000 in
set_option maxHeartbeats 3200000 in
theorem l03Middle_any (A : Option Addr) (c : Nat) (x : List Int) (w : World) (hx : RdL (Value.int .i64) w A x) (hn : x.length ≤ 1048576) (hp : 0 < x.length) :
    Calls Try.prog 76 #[.slice A x.length c] w fun e w' => e = .returned (.int .i64 (medI x)) ∧ Below w.heap.size w w' := by
  obtain ⟨i0, hi0, hz0, hz1, hz2⟩ := info_parts Try.infoI
  cases A with
  | none =>
    obtain rfl := rd_none hx
    simp at hp
  | some ad =>
    have HX := hid hx
    clear hx
    go_enter Try.func76, Try.ntmps76
    go_wp2_with (at_builtin; refine wpList_append_own _ rfl _ _ 22 rfl w.heap.size 2 i0 (.int .i64 0) 1 8 Try.underlying22 hi0 hz0 hz1 hz2 rfl (by decide) _ 0 [] rfl (World.ownsRow_made w #[] 0 (Nat.le_refl _) (Nat.zero_le _) rfl) ad x.length c (x.map (Value.int .i64)) rfl ?c1 (rd_news (HX.out.below (below_a1 _ _))) ?c2 ?c3 ?c4 ?c5 ?_)
    case c1 => simp
    case c2 => intro u hu; obtain ⟨y, _, rfl⟩ := List.mem_map.1 hu; rfl
    case c3 => simp only [maxLen]; omega
    case c4 => omega
    case c5 => simp
    intro v' w1 hown' hgrow _
    have W1 : Hid (Below w.heap.size w w1) := ((Below.refl _ w).alloc (Nat.le_refl _) _).grown hgrow (by simp) (by intro k hk; simp [Value.ownBlock] at hk; omega)
    obtain ⟨A', c', hv, ho⟩ := ownS_of_row (f := (Value.int .i64)) (xs := x) (n := 0 + x.length) (by simpa using hown') (by simp)
    subst hv
    have O1 := hid ho
    clear hown' hgrow ho
    go_wp2
    go_loopw [12] (fun t wr => ∃ i : Nat, i ≤ x.length ∧ t = .int .i64 i ∧ Hid (OwnS (Value.int .i64) wr w.heap.size 2 A' (isrt ltI (x.take i) ++ x.drop i)) ∧ Hid (Below w.heap.size w wr)) (fun t _ => x.length - (intOf t).toNat)
    case atStart => exact ⟨0, Nat.zero_le _, rfl, O1, W1⟩
    case round =>
      obtain ⟨i, hi, rfl, hO, hW⟩ := hrel
      by_cases hlt : i < x.length
      · have hil : (i : Int) < (x.length : Int) := by omega
        obtain ⟨y, hy⟩ : ∃ y, x[i]? = some y := ⟨_, List.getElem?_eq_getElem hlt⟩
        have hlen := isrt_take_length ltI (l := x) (k := i) hi
        have hd : x.drop i = y :: x.drop (i + 1) := by
          obtain ⟨h, rfl⟩ := List.getElem?_eq_some_iff.1 hy
          exact List.drop_eq_getElem_cons h
        have h1 := midR_top (isrt ltI (x.take i)) y (x.drop (i + 1))
        have hnext := hid (isrt_at (lt := ltI) hy)
        obtain ⟨L, hL⟩ : ∃ L, L = isrt ltI (x.take i) := ⟨_, rfl⟩
        obtain ⟨rest, hrest⟩ : ∃ r, r = x.drop (i + 1) := ⟨_, rfl⟩
        have hrl : rest.length = x.length - (i + 1) := by rw [hrest, List.length_drop]
        rw [← hL] at h1 hlen hnext
        rw [← hrest] at h1
        have hO2 : OwnS (Value.int .i64) wr w.heap.size 2 A' (midR L y i rest) := by
          have h2 := hO.out
          rw [hd, ← hL, ← hrest, ← h1, hlen] at h2
          exact h2
        have O2 := hid hO2
        have HREST := hid hrest
        have HLEN := hid hlen
        clear hO hO2 h1 hd hL hrest hlen
        go_wp2
        go_loopw [5] (fun t wq => ∃ j : Nat, j ≤ i ∧ t = .int .i64 j ∧ Hid (posR ltI y L j = posR ltI y L L.length) ∧ Hid (OwnS (Value.int .i64) wq w.heap.size 2 A' (midR L y j rest)) ∧ Hid (Below w.heap.size w wq)) (fun t _ => (intOf t).toNat)
        case atStart => exact ⟨i, Nat.le_refl _, rfl, by have := HLEN.out; show _ = _; rw [this], O2, hW⟩
        case round =>
          obtain ⟨j, hj, rfl, hpos, hOq, hWq⟩ := hrel
          have hml : (midR L y j rest).length = x.length := by rw [midR_length (by have := HLEN.out; omega)]; have := HLEN.out; omega
          cases j with
          | zero =>
            have hfin : midR L y 0 rest = isrt ltI (x.take (i + 1)) ++ x.drop (i + 1) := by
              rw [midR_end (lt := ltI) (by rw [← hpos.out]; rfl), hnext.out, HREST.out]
            have O3 : Hid (OwnS (Value.int .i64) wr w.heap.size 2 A' (isrt ltI (x.take (i + 1)) ++ x.drop (i + 1))) := hfin ▸ hOq.out
            clear hfin
            go_wp2
            go_quiet (fail)
            go_wp2
            exact ⟨⟨i + 1, by omega, by go_num, O3, below_drewN hWq.out _⟩, by simp [intOf]; omega⟩
          | succ j =>
            obtain ⟨z, hz⟩ : ∃ z, L[j]? = some z := ⟨_, List.getElem?_eq_getElem (by have := HLEN.out; omega)⟩
            obtain ⟨g, u, rfl, hgB, hcu, hfu, hum, hput⟩ := hOq.out.put (j := j + 1) (by omega)
            obtain ⟨g', u', hg', hgB', hcu', hfu', hum', hput'⟩ := hOq.out.put (j := j) (by omega)
            injection hg' with hg'; injection hg' with hg'
            subst hg'
            have hu : u = y := by
              have h1 := hum.out
              rw [midR_at (by have := HLEN.out; omega)] at h1
              injection h1 with h1; exact h1.symm
            have hu' : u' = z := by
              have h1 := hum'.out
              rw [midR_below hz] at h1
              injection h1 with h1; exact h1.symm
            subst hu hu'
            have hlj : ((j + 1 : Nat) : Int) < (x.length : Int) := by omega
            have hlj' : ((j : Nat) : Int) < (x.length : Int) := by omega
            have hj0 : (0 : Int) ≤ (j : Int) := by omega
            by_cases hyz : u < u'
            · have hd : decide (u < u') = true := decide_eq_true hyz
              have hpos2 : Hid (posR ltI u L j = posR ltI u L L.length) := by show _ = _; rw [← hpos.out, posR_go hz hd]
              have hA := hput u'
              obtain ⟨g3, u3, hg3, _, hcu3, hfu3, _, hput3⟩ := hA.out.put (j := j) (by rw [List.length_set]; omega)
              injection hg3 with hg3; injection hg3 with hg3
              subst hg3
              have hB := hput3 u
              rw [midR_swap hz] at hB
              clear hput hput' hput3 hA hum hum' hyz hpos hOq
              go_wp2
              go_quiet (fail)
              go_wp2
              exact ⟨⟨j, by omega, by go_num, hpos2, hB, ((below_drewN hWq.out _).setCell (p := ⟨g, j + 1, none⟩) hgB _).setCell (p := ⟨g, j, none⟩) hgB _⟩, by simp [intOf]⟩
            · have hd : decide (u < u') = false := decide_eq_false hyz
              have hfin : midR L u (j + 1) rest = isrt ltI (x.take (i + 1)) ++ x.drop (i + 1) := by
                rw [midR_end (lt := ltI) (by rw [← hpos.out, posR_stop hz hd]), hnext.out, HREST.out]
              have O3 : Hid (OwnS (Value.int .i64) wr w.heap.size 2 (some ⟨g, 0, none⟩) (isrt ltI (x.take (i + 1)) ++ x.drop (i + 1))) := hfin ▸ hOq.out
              clear hput hput' hum hum' hyz hpos hOq hfin
              go_wp2
              go_quiet (fail)
              go_wp2
              exact ⟨⟨i + 1, by omega, by go_num, O3, below_drewN hWq.out _⟩, by simp [intOf]; omega⟩
      · have hil : ¬ (i : Int) < (x.length : Int) := by omega
        have hO2 : OwnS (Value.int .i64) wr w.heap.size 2 A' (isrt ltI x) := by
          have h2 := hO.out
          rw [show i = x.length by omega, List.take_length, List.drop_length, List.append_nil] at h2
          exact h2
        have hm := medI_at x hp
        obtain ⟨bb, oo, m, rfl, hcm, hmm⟩ := hO2.rd.at_ (k := (x.length - 1) / 2) (by rw [isrt_length]; omega)
        have hmv : medI x = m := by
          have h1 := hmm.out
          rw [hm] at h1; injection h1
        have hq1 : (((x.length - 1) / 2 : Nat) : Int) < (x.length : Int) := by omega
        have hq0 : (0 : Int) ≤ (((x.length - 1) / 2 : Nat) : Int) := by omega
        have hq : ((x.length : Int) - 1) / 2 = (((x.length - 1) / 2 : Nat) : Int) := by omega
        have HM := hid hmv
        clear hO hO2 hm hmm hmv
        go_wp2
        go_ret
        exact ⟨ret_int HM.out.symm, hW.out⟩
end Go.Proofs.Ytbodfepfapjikaa
