/-
  The bounds of a key in tops, and the heavy ones: reference and program, by contracts. Printed by gen_topsb.py.
-/
import Derived.Test.YtbodfepfapjikaaTopsW
import Derived.Test.YtbodfepfapjikaaPut
namespace Go.Proofs.Ytbodfepfapjikaa
open Go.RowKit
set_option linter.unusedVariables false
set_option linter.unusedSimpArgs false

theorem quiet_moreN' {P : Program} {f : FuncId} {args : Array Value} {w : World} {a n : Nat} {v : Value}
    (h : Calls P f args (w.drewN (a + n)) fun e w' => e = .returned v ∧ ∃ m, w' = (w.drewN (a + n)).drewN m) : Calls P f args (w.drewN (a + n)) fun e w'' => e = .returned v ∧ ∃ m, w'' = w.drewN (a + m) :=
  h.mono fun _ _ ⟨he, m, hm⟩ => ⟨he, n + m, by rw [hm, World.drewN_drewN, Nat.add_assoc]⟩
theorem lowN_min (x : List Int) (hp : 0 < x.length) : x[lowN x x.length]? = some (minL x) := by
  suffices h : ∀ n, n < x.length → x[lowN x (n + 1)]? = some (minL (x.take (n + 1))) by
    have := h (x.length - 1) (by omega)
    rwa [show x.length - 1 + 1 = x.length by omega, List.take_length] at this
  intro n
  induction n with
  | zero =>
    intro h
    have h0 : x[0]? = some x[0] := List.getElem?_eq_getElem h
    simp only [lowN, Nat.lt_irrefl, Int.lt_irrefl, if_false]
    rw [List.take_add_one, h0]; simp [minL]
  | succ n ih =>
    intro h
    have ih := ih (by omega)
    have hy : x[n + 1]? = some x[n + 1] := List.getElem?_eq_getElem h
    have hne : x.take (n + 1) ≠ [] := by
      intro h2
      have h3 : (x.take (n + 1)).length = n + 1 := by simp; omega
      rw [h2] at h3; simp at h3
    rw [List.take_add_one, hy, Option.toList_some, minL_snoc _ hne, lowN]
    have h1 : x.getD (n + 1) 0 = x[n + 1] := by rw [List.getD_eq_getElem?_getD, hy]; rfl
    have h2 : x.getD (lowN x (n + 1)) 0 = minL (x.take (n + 1)) := by rw [List.getD_eq_getElem?_getD, ih]; rfl
    rw [h1, h2]
    by_cases hc : x[n + 1] < minL (x.take (n + 1))
    · rw [if_pos hc, hy]; congr 1; omega
    · rw [if_neg hc, ih]; congr 1; omega
theorem idxP_cases (p : Int → Bool) (x : List Int) : (∃ i : Nat, i < x.length ∧ idxP p x = i) ∨ (idxP p x = -1) := by
  unfold idxP
  cases h : x.findIdx? p with
  | none => exact .inr rfl
  | some i => exact .inl ⟨i, (List.findIdx?_eq_some_iff_findIdx_eq.1 h).1, rfl⟩
theorem vTops_iff {r : Int} {k c e : List Int} (h : vTops r k c e = true) : (1 ≤ r ∧ r ≤ 32) ∧ (k.length : Int) ≤ r ∧ c.length = k.length ∧ e.length = k.length ∧
    (∀ y ∈ c, 1 ≤ y ∧ y ≤ 1000000000000) ∧ (∀ y ∈ e, 0 ≤ y ∧ y ≤ 1000000000000) ∧ (∀ y ∈ k, 0 ≤ y ∧ y ≤ 4294967295) ∧ k.Nodup := by
  simp only [vTops, Bool.and_eq_true, Bool.not_eq_true', decide_eq_false_iff_not, beq_iff_eq] at h
  obtain ⟨⟨⟨⟨h1, h2⟩, h3⟩, h4⟩, h5⟩ := h
  rw [topAt_all k c e h3] at h5
  simp only [Bool.and_eq_true, decide_eq_true_eq, List.all_eq_true, List.mem_range, topCE] at h5
  obtain ⟨⟨h5, h6⟩, h7⟩ := h5
  refine ⟨inB_iff.1 h1, by omega, h3, h4, fun y hy => ?_, fun y hy => ?_, fun y hy => ?_, h7⟩
  · obtain ⟨i, hi, rfl⟩ := List.mem_iff_getElem.1 hy
    have := inB_iff.1 (h5 i hi).1
    rwa [List.getD_eq_getElem?_getD, List.getElem?_eq_getElem hi] at this
  · obtain ⟨i, hi, rfl⟩ := List.mem_iff_getElem.1 hy
    have h8 := inB_iff.1 (h5 i (by omega)).2
    have h9 := inB_iff.1 (h5 i (by omega)).1
    rw [List.getD_eq_getElem?_getD, List.getElem?_eq_getElem hi] at h8
    simp only [Option.getD_some] at h8
    omega
  · unfold allB at h6
    rw [List.all_eq_true] at h6
    exact inB_iff.1 (h6 y hy)
/-- The bounds of a key. -/
def bndT (r : Int) (k c e : List Int) (key : Int) : Int × Int :=
  if 0 ≤ idxP (fun y => y == key) k then (c.getD (idxP (fun y => y == key) k).toNat 0 - e.getD (idxP (fun y => y == key) k).toNat 0, c.getD (idxP (fun y => y == key) k).toNat 0)
  else if (k.length : Int) < r then (0, 0) else (0, minL c)
/-- What TopBounds returns. -/
def pTopBounds (r : Int) (k c e : List Int) (key : Int) : Int × Int × Bool :=
  if (vTops r k c e && inB key 0 4294967295) = true then ((bndT r k c e key).1, (bndT r k c e key).2, true) else (0, 0, false)
theorem bndT_hit {r : Int} {k c e : List Int} {key : Int} {i : Nat} {u z : Int} (h : idxP (fun y => y == key) k = i) (hu : Hid (c[i]? = some u)) (hz : Hid (e[i]? = some z)) : bndT r k c e key = (u - z, u) := by
  unfold bndT
  rw [h, if_pos (by omega), Int.toNat_natCast, getD_at hu, getD_at hz]
theorem bndT_room {r : Int} {k c e : List Int} {key : Int} (h : idxP (fun y => y == key) k = -1) (hr : (k.length : Int) < r) : bndT r k c e key = (0, 0) := by
  unfold bndT
  rw [h, if_neg (by omega), if_pos hr]
theorem bndT_full {r : Int} {k c e : List Int} {key : Int} (h : idxP (fun y => y == key) k = -1) (hr : ¬ (k.length : Int) < r) : bndT r k c e key = (0, minL c) := by
  unfold bndT
  rw [h, if_neg (by omega), if_neg hr]
set_option maxRecDepth 100000 in
set_option maxHeartbeats 3200000 in
theorem l03Bounds_any (p : Nat) (r : Int) (A1 : Option Addr) (c1 : Nat) (k : List Int) (A2 : Option Addr) (c2 : Nat) (c : List Int) (A3 : Option Addr) (c3 : Nat) (e : List Int) (key : Int) (w : World) (h0 : w.cell? ⟨p, 0, none⟩ = some (.int .i64 r)) (h1 : w.cell? ⟨p, 1, none⟩ = some (.slice A1 k.length c1))
    (h2 : w.cell? ⟨p, 2, none⟩ = some (.slice A2 c.length c2)) (h3 : w.cell? ⟨p, 3, none⟩ = some (.slice A3 e.length c3)) (hk : RdL (Value.int .i64) w A1 k) (hc : RdL (Value.int .i64) w A2 c) (he : RdL (Value.int .i64) w A3 e) (hv : vTops r k c e = true) :
    Calls Try.prog 71 #[.pointer (some ⟨p, 0, none⟩), .int .i64 key] w fun en w' => en = .returned (.tuple #[.int .i64 (bndT r k c e key).1, .int .i64 (bndT r k c e key).2]) ∧ ∃ n, w' = w.drewN n := by
  have HK := hid hk
  have HC := hid hc
  have HE := hid he
  obtain ⟨⟨hr1, hr2⟩, hkr, hcl, hel, hcb, heb, _, _⟩ := vTops_iff hv
  have HCL := hid hcl
  have HEL := hid hel
  have hk32 : k.length ≤ 32 := by omega
  have hc32 : c.length ≤ 32 := by omega
  have HCB := hid hcb
  have HEB := hid heb
  clear hk hc he hv hcl hel hcb heb
  rcases idxP_cases (fun y => y == key) k with ⟨i, hi, hx⟩ | hx
  · have C1 : Hid (∀ w', RdL (Value.int .i64) w' A1 k → Calls Try.prog 61 #[.slice A1 k.length c1, .int .i64 key] w' fun en w'' => en = .returned (.int .i64 i) ∧ w' = w'') := fun w' h => hx ▸ l03Find_any A1 c1 k key w' h (by omega)
    obtain ⟨bc, oc, u, rfl, hcu, huk⟩ := HC.out.at_ (k := i) (by have := HCL.out; omega)
    obtain ⟨be, oe, z, rfl, hcz, hzk⟩ := HE.out.at_ (k := i) (by have := HEL.out; omega)
    have hbd := hid (bndT_hit (r := r) hx huk hzk)
    have hub := HCB.out u (List.mem_of_getElem? huk.out)
    have hzb := HEB.out z (List.mem_of_getElem? hzk.out)
    have hwr : IntKind.i64.wrap (u - z) = u - z := by rw [IntKind.wrap_i64]; omega
    have hic : (i : Int) < (c.length : Int) := by have := HCL.out; omega
    have hie : (i : Int) < (e.length : Int) := by have := HEL.out; omega
    have hi0 : (0 : Int) ≤ (i : Int) := by omega
    clear hx hub hzb huk hzk
    go_enter Try.func71, Try.ntmps71
    go_wp2_with (go_at_call 61; with_reducible refine (C1.out _ HK.out).mono ?_; rintro en w1 ⟨rfl, rfl⟩)
    go_quiet (fail)
    go_wp2
    go_ret2
    exact ⟨by rw [hbd.out]; rfl, _, rfl⟩
  · have C1 : Hid (∀ w', RdL (Value.int .i64) w' A1 k → Calls Try.prog 61 #[.slice A1 k.length c1, .int .i64 key] w' fun en w'' => en = .returned (.int .i64 (-1)) ∧ w' = w'') := fun w' h => hx ▸ l03Find_any A1 c1 k key w' h (by omega)
    by_cases hlt : (k.length : Int) < r
    · have hbd := hid (bndT_room (c := c) (e := e) hx hlt)
      clear hx
      go_enter Try.func71, Try.ntmps71
      go_wp2_with (go_at_call 61; with_reducible refine (C1.out _ HK.out).mono ?_; rintro en w1 ⟨rfl, rfl⟩)
      go_quiet (fail)
      go_wp2
      go_ret2
      exact ⟨by rw [hbd.out]; rfl, _, rfl⟩
    · have hbd := hid (bndT_full (c := c) (e := e) hx hlt)
      have hd : decide ((k.length : Int) < r) = false := decide_eq_false hlt
      have hpos : 0 < c.length := by have := HCL.out; omega
      have hlow := l03Lowest_any A2 c2 c w HC.out (by omega) hpos
      have hcx := hid (lowN_min c hpos)
      have hml : lowN c c.length < c.length := by
        rcases Nat.lt_or_ge (lowN c c.length) c.length with h | h
        · exact h
        · have := hcx.out; rw [List.getElem?_eq_none h] at this; cases this
      obtain ⟨m, hm⟩ : ∃ m, m = lowN c c.length := ⟨_, rfl⟩
      rw [← hm] at hcx hml
      obtain ⟨bc, oc, u, rfl, hcu, huk⟩ := HC.out.at_ (k := m) hml
      have hu : u = minL c := by have := huk.out; rw [hcx.out] at this; injection this with this; exact this.symm
      have C2 : Hid (∀ n, Calls Try.prog 117 #[.slice (some ⟨bc, oc, none⟩) c.length c2] (w.drewN n) fun en w'' => en = .returned (.int .i64 m) ∧ ∃ q, w'' = (w.drewN n).drewN q) := fun n => (l03Lowest_any _ c2 c (w.drewN n) (HC.out.drewN n) (by omega) hpos).mono fun _ _ ⟨h, _, h2⟩ => ⟨by rw [h, hm], h2⟩
      rw [← hu] at hbd
      have hmi : (m : Int) < (c.length : Int) := by omega
      have hm0 : (0 : Int) ≤ (m : Int) := by omega
      clear hx hcx huk hu hm hlow
      go_enter Try.func71, Try.ntmps71
      go_wp2_with (go_at_call 61; with_reducible refine (C1.out _ HK.out).mono ?_; rintro en w1 ⟨rfl, rfl⟩)
      go_quiet (fail)
      go_wp2
      go_quiet ((go_at_call 117; exact quiet_moreN' (C2.out _)))
      go_wp2
      go_ret2
      exact ⟨by rw [hbd.out]; rfl, _, World.drewN_drewN _ _ _⟩
set_option maxRecDepth 100000 in
set_option maxHeartbeats 3200000 in
theorem ibounds_any (r : Int) (A1 : Option Addr) (c1 : Nat) (k : List Int) (A2 : Option Addr) (c2 : Nat) (c : List Int) (A3 : Option Addr) (c3 : Nat) (e : List Int) (key : Int) (w : World) (hk : RdL (Value.int .i64) w A1 k) (hc : RdL (Value.int .i64) w A2 c) (he : RdL (Value.int .i64) w A3 e) (hv : vTops r k c e = true) :
    Calls Try.prog 73 #[.agg #[.int .i64 r, .slice A1 k.length c1, .slice A2 c.length c2, .slice A3 e.length c3], .int .i64 key] w fun en w' => en = .returned (.tuple #[.int .i64 (bndT r k c e key).1, .int .i64 (bndT r k c e key).2]) ∧ Below w.heap.size w w' := by
  have HK := hid (hk.below (below_a1 w (.cells #[.int .i64 r, .slice A1 k.length c1, .slice A2 c.length c2, .slice A3 e.length c3] 33)))
  have HC := hid (hc.below (below_a1 w (.cells #[.int .i64 r, .slice A1 k.length c1, .slice A2 c.length c2, .slice A3 e.length c3] 33)))
  have HE := hid (he.below (below_a1 w (.cells #[.int .i64 r, .slice A1 k.length c1, .slice A2 c.length c2, .slice A3 e.length c3] 33)))
  have b0 := hid (Blk.new w 33 [.int .i64 r, .slice A1 k.length c1, .slice A2 c.length c2, .slice A3 e.length c3])
  obtain ⟨⟨hr1, hr2⟩, hkr, hcl, hel, hcb, heb, _, _⟩ := vTops_iff hv
  have HCL := hid hcl
  have HEL := hid hel
  have hk32 : k.length ≤ 32 := by omega
  have hc32 : c.length ≤ 32 := by omega
  have HCB := hid hcb
  have HEB := hid heb
  clear hk hc he hv hcl hel hcb heb
  rcases idxP_cases (fun y => y == key) k with ⟨i, hi, hx⟩ | hx
  · have C1 : Hid (∀ w', RdL (Value.int .i64) w' A1 k → Calls Try.prog 118 #[.slice A1 k.length c1, .int .i64 key] w' fun en w'' => en = .returned (.int .i64 i) ∧ w' = w'') := fun w' h => hx ▸ slIndexG_any A1 c1 k key w' h (by omega)
    obtain ⟨bc, oc, u, rfl, hcu, huk⟩ := HC.out.at_ (k := i) (by have := HCL.out; omega)
    obtain ⟨be, oe, z, rfl, hcz, hzk⟩ := HE.out.at_ (k := i) (by have := HEL.out; omega)
    have hbd := hid (bndT_hit (r := r) hx huk hzk)
    have hub := HCB.out u (List.mem_of_getElem? huk.out)
    have hzb := HEB.out z (List.mem_of_getElem? hzk.out)
    have hwr : IntKind.i64.wrap (u - z) = u - z := by rw [IntKind.wrap_i64]; omega
    have hic : (i : Int) < (c.length : Int) := by have := HCL.out; omega
    have hie : (i : Int) < (e.length : Int) := by have := HEL.out; omega
    have hi0 : (0 : Int) ≤ (i : Int) := by omega
    clear hx hub hzb huk hzk
    go_enter Try.func73, Try.ntmps73
    go_wp2_with (go_at_call 118; with_reducible refine (C1.out _ HK.out).mono ?_; rintro en w1 ⟨rfl, rfl⟩)
    go_quiet (fail)
    go_wp2
    go_ret2
    exact ⟨by rw [hbd.out]; rfl, below_drewN (below_a1 _ _) _⟩
  · have C1 : Hid (∀ w', RdL (Value.int .i64) w' A1 k → Calls Try.prog 118 #[.slice A1 k.length c1, .int .i64 key] w' fun en w'' => en = .returned (.int .i64 (-1)) ∧ w' = w'') := fun w' h => hx ▸ slIndexG_any A1 c1 k key w' h (by omega)
    by_cases hlt : (k.length : Int) < r
    · have hbd := hid (bndT_room (c := c) (e := e) hx hlt)
      have heq : ((k.length : Int) == r) = false := beq_eq_false_iff_ne.2 (by omega)
      clear hx
      go_enter Try.func73, Try.ntmps73
      go_wp2_with (go_at_call 118; with_reducible refine (C1.out _ HK.out).mono ?_; rintro en w1 ⟨rfl, rfl⟩)
      go_ret2
      exact ⟨by rw [hbd.out]; rfl, below_a1 _ _⟩
    · have hbd := hid (bndT_full (c := c) (e := e) hx hlt)
      have heq : ((k.length : Int) == r) = true := beq_iff_eq.2 (by omega)
      have hpos : 0 < c.length := by have := HCL.out; omega
      clear hx hlt
      go_enter Try.func73, Try.ntmps73
      go_wp2_with (first | (go_at_call 118; with_reducible refine (C1.out _ HK.out).mono ?_; rintro en w1 ⟨rfl, rfl⟩) | (go_at_call 119; refine (slMin_any A2 c2 c _ HC.out (by omega) hpos).mono ?_; rintro en w2 ⟨rfl, rfl⟩))
      go_ret2
      exact ⟨by rw [hbd.out]; rfl, below_a1 _ _⟩
set_option maxRecDepth 100000 in
set_option maxHeartbeats 1600000 in
theorem sTopBounds_any (r : Int) (A1 : Option Addr) (c1 : Nat) (k : List Int) (A2 : Option Addr) (c2 : Nat) (c : List Int) (A3 : Option Addr) (c3 : Nat) (e : List Int) (key : Int) (w : World) (hr : W64 r) (hk : RdL (Value.int .i64) w A1 k) (hnk : k.length ≤ 1048576) (wk : ∀ y ∈ k, W64 y) (hc : RdL (Value.int .i64) w A2 c) (hnc : c.length ≤ 1048576) (wc : ∀ y ∈ c, W64 y) (he : RdL (Value.int .i64) w A3 e) (hne : e.length ≤ 1048576) (we : ∀ y ∈ e, W64 y) (hkey : W64 key) (hcap : k.length ≤ c1 := by exact Nat.le_refl _) (hcap2 : c1 ≤ 1048576 := by assumption) :
    Calls Try.prog 24 #[.agg #[.int .i64 r, .slice A1 k.length c1, .slice A2 c.length c2, .slice A3 e.length c3], .int .i64 key] w fun en w' => en = .returned (.tuple #[.int .i64 (pTopBounds r k c e key).1, .int .i64 (pTopBounds r k c e key).2.1, .bool (pTopBounds r k c e key).2.2]) ∧ Below w.heap.size w w' := by
  have HK0 := hid hk
  have HC0 := hid hc
  have HE0 := hid he
  have WKE := hid (And.intro wk (And.intro wc we))
  have HK := hid (hk.below (below_a1 w (.cells #[.int .i64 r, .slice A1 k.length c1, .slice A2 c.length c2, .slice A3 e.length c3] 33)))
  have HC := hid (hc.below (below_a1 w (.cells #[.int .i64 r, .slice A1 k.length c1, .slice A2 c.length c2, .slice A3 e.length c3] 33)))
  have HE := hid (he.below (below_a1 w (.cells #[.int .i64 r, .slice A1 k.length c1, .slice A2 c.length c2, .slice A3 e.length c3] 33)))
  have b0 := hid (Blk.new w 33 [.int .i64 r, .slice A1 k.length c1, .slice A2 c.length c2, .slice A3 e.length c3])
  clear hk hc he wk wc we
  cases hv : vTops r k c e with
  | false =>
    have hp : pTopBounds r k c e key = (0, 0, false) := by simp [pTopBounds, hv]
    rw [hp]
    clear hp
    go_enter Try.func24, Try.ntmps24
    go_wp2_with fail
    refine (l03Tops_any _ c1 c2 c3 A1 A2 A3 r k c e _ (by simp) (by simp) (by simp) (by simp) HK.out HC.out HE.out hnk hnc hne hcap hcap2).mono ?_
    rw [hv]
    rintro en w1 ⟨rfl, n, rfl⟩
    go_wp2
    go_ret3
    exact ⟨rfl, below_drewN (below_a1 _ _) _⟩
  | true =>
  cases hkk : inB key 0 4294967295 with
  | false =>
    have hp : pTopBounds r k c e key = (0, 0, false) := by simp [pTopBounds, hkk]
    rw [hp]
    clear hp
    go_enter Try.func24, Try.ntmps24
    go_wp2_with fail
    refine (l03Tops_any _ c1 c2 c3 A1 A2 A3 r k c e _ (by simp) (by simp) (by simp) (by simp) HK.out HC.out HE.out hnk hnc hne hcap hcap2).mono ?_
    rw [hv]
    rintro en w1 ⟨rfl, n, rfl⟩
    go_wp2_with ((go_at_call 70; refine (l02Key_any _ _).mono ?_; rintro e w' ⟨rfl, rfl⟩))
    go_ret3
    exact ⟨rfl, below_drewN (below_a1 _ _) _⟩
  | true =>
    have hp : pTopBounds r k c e key = ((bndT r k c e key).1, (bndT r k c e key).2, true) := by simp [pTopBounds, hv, hkk]
    rw [hp]
    have HV := hid hv
    clear hp
    go_enter Try.func24, Try.ntmps24
    go_wp2_with fail
    refine (l03Tops_any _ c1 c2 c3 A1 A2 A3 r k c e _ (by simp) (by simp) (by simp) (by simp) HK.out HC.out HE.out hnk hnc hne hcap hcap2).mono ?_
    rw [hv]
    rintro en w1 ⟨rfl, n, rfl⟩
    clear hv
    go_wp2_with (first | (go_at_call 70; refine (l02Key_any _ _).mono ?_; rintro en w' ⟨rfl, rfl⟩) | (go_at_call 71; refine (l03Bounds_any _ r A1 c1 k A2 c2 c A3 c3 e key _ (by simp) (by simp) (by simp) (by simp) (HK.out.drewN _) (HC.out.drewN _) (HE.out.drewN _) HV.out).mono ?_; rintro en w2 ⟨rfl, n2, rfl⟩))
    go_ret3
    exact ⟨rfl, below_drewN (below_a1 _ _) _⟩
set_option maxRecDepth 100000 in
set_option maxHeartbeats 1600000 in
theorem iTopBounds_any (r : Int) (A1 : Option Addr) (c1 : Nat) (k : List Int) (A2 : Option Addr) (c2 : Nat) (c : List Int) (A3 : Option Addr) (c3 : Nat) (e : List Int) (key : Int) (w : World) (hr : W64 r) (hk : RdL (Value.int .i64) w A1 k) (hnk : k.length ≤ 1048576) (wk : ∀ y ∈ k, W64 y) (hc : RdL (Value.int .i64) w A2 c) (hnc : c.length ≤ 1048576) (wc : ∀ y ∈ c, W64 y) (he : RdL (Value.int .i64) w A3 e) (hne : e.length ≤ 1048576) (we : ∀ y ∈ e, W64 y) (hkey : W64 key) (hcap : k.length ≤ c1 := by exact Nat.le_refl _) (hcap2 : c1 ≤ 1048576 := by assumption) :
    Calls Try.prog 25 #[.agg #[.int .i64 r, .slice A1 k.length c1, .slice A2 c.length c2, .slice A3 e.length c3], .int .i64 key] w fun en w' => en = .returned (.tuple #[.int .i64 (pTopBounds r k c e key).1, .int .i64 (pTopBounds r k c e key).2.1, .bool (pTopBounds r k c e key).2.2]) ∧ Below w.heap.size w w' := by
  have HK0 := hid hk
  have HC0 := hid hc
  have HE0 := hid he
  have WKE := hid (And.intro wk (And.intro wc we))
  have HK := hid (hk.below (below_a1 w (.cells #[.int .i64 r, .slice A1 k.length c1, .slice A2 c.length c2, .slice A3 e.length c3] 33)))
  have HC := hid (hc.below (below_a1 w (.cells #[.int .i64 r, .slice A1 k.length c1, .slice A2 c.length c2, .slice A3 e.length c3] 33)))
  have HE := hid (he.below (below_a1 w (.cells #[.int .i64 r, .slice A1 k.length c1, .slice A2 c.length c2, .slice A3 e.length c3] 33)))
  have b0 := hid (Blk.new w 33 [.int .i64 r, .slice A1 k.length c1, .slice A2 c.length c2, .slice A3 e.length c3])
  clear hk hc he wk wc we
  cases hv : vTops r k c e with
  | false =>
    have hp : pTopBounds r k c e key = (0, 0, false) := by simp [pTopBounds, hv]
    rw [hp]
    clear hp
    go_enter Try.func25, Try.ntmps25
    go_wp2_with fail
    refine (ValidTops_any r A1 c1 k A2 c2 c A3 c3 e _ hr HK.out hnk WKE.out.1 HC.out hnc WKE.out.2.1 HE.out hne WKE.out.2.2).mono ?_
    rw [hv]
    rintro en w1 ⟨rfl, hb1⟩
    have S1 := below_call (below_a1 _ _) hb1
    go_wp2
    go_ret3
    exact ⟨rfl, S1.out⟩
  | true =>
  cases hkk : inB key 0 4294967295 with
  | false =>
    have hp : pTopBounds r k c e key = (0, 0, false) := by simp [pTopBounds, hkk]
    rw [hp]
    clear hp
    go_enter Try.func25, Try.ntmps25
    go_wp2_with fail
    refine (ValidTops_any r A1 c1 k A2 c2 c A3 c3 e _ hr HK.out hnk WKE.out.1 HC.out hnc WKE.out.2.1 HE.out hne WKE.out.2.2).mono ?_
    rw [hv]
    rintro en w1 ⟨rfl, hb1⟩
    have S1 := below_call (below_a1 _ _) hb1
    go_wp2_with ((go_at_call 72; refine (IsKey_any _ _).mono ?_; rintro e w' ⟨rfl, rfl⟩))
    go_ret3
    exact ⟨rfl, S1.out⟩
  | true =>
    have hp : pTopBounds r k c e key = ((bndT r k c e key).1, (bndT r k c e key).2, true) := by simp [pTopBounds, hv, hkk]
    rw [hp]
    have HV := hid hv
    clear hp
    go_enter Try.func25, Try.ntmps25
    go_wp2_with fail
    refine (ValidTops_any r A1 c1 k A2 c2 c A3 c3 e _ hr HK.out hnk WKE.out.1 HC.out hnc WKE.out.2.1 HE.out hne WKE.out.2.2).mono ?_
    rw [hv]
    rintro en w1 ⟨rfl, hb1⟩
    have S1 := below_call (below_a1 _ _) hb1
    clear hv
    obtain ⟨q0, q1, q2, q3⟩ := (b0.out.below hb1).cells4
    have hlw : w.heap.size < w1.heap.size := (b0.out.below hb1).lt
    have HK1 := hid (HK0.out.below S1.out)
    have HC1 := hid (HC0.out.below S1.out)
    have HE1 := hid (HE0.out.below S1.out)
    clear hb1
    go_wp2_with (first | (go_at_call 72; refine (IsKey_any _ _).mono ?_; rintro en w' ⟨rfl, rfl⟩) | (go_at_call 73; refine (ibounds_any r A1 c1 k A2 c2 c A3 c3 e key _ HK1.out HC1.out HE1.out HV.out).mono ?_; rintro en w2 ⟨rfl, hb2⟩))
    go_ret3
    exact ⟨rfl, S1.out.trans (hb2.mono S1.out.size)⟩
/-- The heavy ones among the first n. -/
def heavyL (k c e : List Int) (least : Int) (n : Nat) : List Int := ((List.range n).filter fun i => decide (least ≤ c.getD i 0 - e.getD i 0)).map fun i => k.getD i 0
theorem heavyL_yes {k c e : List Int} {least : Int} {i : Nat} {y u z : Int} (hy : Hid (k[i]? = some y)) (hu : Hid (c[i]? = some u)) (hz : Hid (e[i]? = some z)) (h : least ≤ u - z) : heavyL k c e least (i + 1) = heavyL k c e least i ++ [y] := by
  unfold heavyL
  rw [List.range_succ, List.filter_append, List.map_append]
  congr 1
  simp only [List.filter_cons, List.filter_nil, getD_at hu, getD_at hz, decide_eq_true h, if_true, List.map_cons, List.map_nil, getD_at hy]
theorem heavyL_no {k c e : List Int} {least : Int} {i : Nat} {u z : Int} (hu : Hid (c[i]? = some u)) (hz : Hid (e[i]? = some z)) (h : ¬ least ≤ u - z) : heavyL k c e least (i + 1) = heavyL k c e least i := by
  unfold heavyL
  rw [List.range_succ, List.filter_append, List.map_append]
  simp only [List.filter_cons, List.filter_nil, getD_at hu, getD_at hz, decide_eq_false h, Bool.false_eq_true, if_false, List.map_nil, List.append_nil]
theorem heavyL_length (k c e : List Int) (least : Int) (n : Nat) : (heavyL k c e least n).length ≤ n := by
  unfold heavyL
  rw [List.length_map]
  have := List.length_filter_le (fun i => decide (least ≤ c.getD i 0 - e.getD i 0)) (List.range n)
  simpa using this
theorem heavyL_nodup {k c e : List Int} {least : Int} (h : k.Nodup) : (heavyL k c e least k.length).Nodup := by
  have h1 : (List.range k.length).map (fun i => k.getD i 0) = k := by
    apply List.ext_getElem?
    intro i
    rw [List.getElem?_map]
    by_cases hi : i < k.length
    · rw [List.getElem?_range hi, Option.map_some, List.getD_eq_getElem?_getD, List.getElem?_eq_getElem hi]; rfl
    · rw [List.getElem?_eq_none (by simpa using hi), List.getElem?_eq_none (by omega)]; rfl
  have h2 : List.Sublist (heavyL k c e least k.length) ((List.range k.length).map (fun i => k.getD i 0)) := List.Sublist.map _ List.filter_sublist
  rw [h1] at h2
  exact List.Nodup.sublist h2 h
/-- What HeavyTops returns. -/
def pHeavyTops (r : Int) (k c e : List Int) (least : Int) : List Int × Bool := if vTops r k c e = true then (ascOf (heavyL k c e least k.length), true) else ([], false)
/-- A slice of the call's own, and a truth value. -/
def RetHB (w : World) (p : List Int × Bool) (en : Ending) (w' : World) : Prop :=
  ∃ A c, en = .returned (.tuple #[.slice A p.1.length c, .bool p.2]) ∧ OwnS (Value.int .i64) w' w.heap.size 2 A p.1 ∧ p.1.length ≤ 1048576 ∧ Below w.heap.size w w'
theorem retHB_no {w : World} : ∀ (en : Ending) (w' : World), (en = .returned (.tuple #[.slice none 0 0, .bool false]) ∧ Below w.heap.size w w') → RetHB w ([], false) en w' := by
  rintro e w' ⟨rfl, hb⟩
  exact ⟨none, 0, rfl, OwnS.nil, by simp, hb⟩
set_option maxRecDepth 100000 in
set_option maxHeartbeats 3200000 in
theorem sHeavyTops_any (r : Int) (A1 : Option Addr) (c1 : Nat) (k : List Int) (A2 : Option Addr) (c2 : Nat) (c : List Int) (A3 : Option Addr) (c3 : Nat) (e : List Int) (least : Int) (w : World) (hr : W64 r) (hk : RdL (Value.int .i64) w A1 k) (hnk : k.length ≤ 1048576) (wk : ∀ y ∈ k, W64 y) (hc : RdL (Value.int .i64) w A2 c) (hnc : c.length ≤ 1048576) (wc : ∀ y ∈ c, W64 y) (he : RdL (Value.int .i64) w A3 e) (hne : e.length ≤ 1048576) (we : ∀ y ∈ e, W64 y) (hleast : W64 least) (hcap : k.length ≤ c1 := by exact Nat.le_refl _) (hcap2 : c1 ≤ 1048576 := by assumption) :
    Calls Try.prog 26 #[.agg #[.int .i64 r, .slice A1 k.length c1, .slice A2 c.length c2, .slice A3 e.length c3], .int .i64 least] w (RetHB w (pHeavyTops r k c e least)) := by
  have WKE := hid (And.intro wk (And.intro wc we))
  have HK := hid (hk.below (below_a1 w (.cells #[.int .i64 r, .slice A1 k.length c1, .slice A2 c.length c2, .slice A3 e.length c3] 33)))
  have HC := hid (hc.below (below_a1 w (.cells #[.int .i64 r, .slice A1 k.length c1, .slice A2 c.length c2, .slice A3 e.length c3] 33)))
  have HE := hid (he.below (below_a1 w (.cells #[.int .i64 r, .slice A1 k.length c1, .slice A2 c.length c2, .slice A3 e.length c3] 33)))
  have b0 := hid (Blk.new w 33 [.int .i64 r, .slice A1 k.length c1, .slice A2 c.length c2, .slice A3 e.length c3])
  clear hk hc he wk wc we
  cases hv : vTops r k c e with
  | false =>
    have hp : pHeavyTops r k c e least = ([], false) := by simp [pHeavyTops, hv]
    rw [hp]
    clear hp
    refine Calls.mono ?_ retHB_no
    go_enter Try.func26, Try.ntmps26
    go_wp2_with fail
    refine (l03Tops_any _ c1 c2 c3 A1 A2 A3 r k c e _ (by simp) (by simp) (by simp) (by simp) HK.out HC.out HE.out hnk hnc hne hcap hcap2).mono ?_
    rw [hv]
    rintro en w1 ⟨rfl, n, rfl⟩
    go_wp2
    go_ret2
    exact ⟨rfl, below_drewN (below_a1 _ _) _⟩
  | true =>
    obtain ⟨⟨hr1, hr2⟩, hkr, hcl, hel, hcb, heb, _, hnd⟩ := vTops_iff hv
    have HCL := hid hcl
    have HEL := hid hel
    have HCB := hid hcb
    have HEB := hid heb
    have hk32 : k.length ≤ 32 := by omega
    have hp : pHeavyTops r k c e least = (ascOf (heavyL k c e least k.length), true) := by simp [pHeavyTops, hv]
    rw [hp]
    clear hp hcl hel hcb heb hnd
    go_enter Try.func26, Try.ntmps26
    go_wp2_with fail
    refine (l03Tops_any _ c1 c2 c3 A1 A2 A3 r k c e _ (by simp) (by simp) (by simp) (by simp) HK.out HC.out HE.out hnk hnc hne hcap hcap2).mono ?_
    rw [hv]
    rintro en w1 ⟨rfl, n, rfl⟩
    clear hv
    obtain ⟨w1, hw1⟩ : ∃ q, q = (w.alloc (.cells #[.int .i64 r, .slice A1 k.length c1, .slice A2 c.length c2, .slice A3 e.length c3] 33)).drewN n := ⟨_, rfl⟩
    rw [← hw1]
    have S1 : Hid (Below (w.alloc (.cells #[.int .i64 r, .slice A1 k.length c1, .slice A2 c.length c2, .slice A3 e.length c3] 33)).heap.size (w.alloc (.cells #[.int .i64 r, .slice A1 k.length c1, .slice A2 c.length c2, .slice A3 e.length c3] 33)) w1) := by rw [hw1]; exact below_drewN (Below.refl _ _) _
    clear hw1
    have b1 := hid (b0.out.below S1.out)
    have HK1 := hid (HK.out.below S1.out)
    have HC1 := hid (HC.out.below S1.out)
    have HE1 := hid (HE.out.below S1.out)
    have Z1 := hid ((below_a1 w (.cells #[.int .i64 r, .slice A1 k.length c1, .slice A2 c.length c2, .slice A3 e.length c3] 33)).trans (S1.out.mono (below_a1 w (.cells #[.int .i64 r, .slice A1 k.length c1, .slice A2 c.length c2, .slice A3 e.length c3] 33)).size))
    clear S1 b0 HK HC HE
    obtain ⟨q0, q1, q2, q3⟩ := b1.out.cells4
    have hlw1 : w.heap.size < w1.heap.size := b1.out.lt
    go_wp2
    clear q0 q1 q2 q3
    go_loopw [6, 14] (fun v j wr => ∃ i : Nat, i ≤ k.length ∧ j = .int .i64 i ∧ ∃ o, Hid (ascOf (heavyL k c e least i) = o) ∧ Hid (o.length ≤ i) ∧ Hid (Below w1.heap.size w1 wr) ∧ ∃ A' c', v = .slice A' (List.length o) c' ∧ Hid (OwnS (Value.int .i64) wr w1.heap.size 2 A' o)) (fun _ j _ => k.length - (intOf j).toNat)
    case atStart => exact ⟨0, Nat.zero_le _, rfl, [], rfl, Nat.zero_le _, below_a1 _ _, some ⟨w1.heap.size, 0, none⟩, 0, rfl, OwnS.nil⟩
    case round =>
      obtain ⟨i, hik, rfl, o, ho, hol, hW, A', c', rfl, hO⟩ := hrel
      have hol2 : o.length ≤ 32 := by have := hol.out; omega
      have br := hid (b1.out.below hW.out)
      obtain ⟨q0, q1, q2, q3⟩ := br.out.cells4
      have hlr : w.heap.size < wr.heap.size := br.out.lt
      by_cases hlt : i < k.length
      · have hi : (i : Int) < (k.length : Int) := by omega
        obtain ⟨bk, ok, y, rfl, hcy, hyk⟩ := (HK1.out.below hW.out).at_ hlt
        obtain ⟨bc, oc, u, rfl, hcu, huk⟩ := (HC1.out.below hW.out).at_ (k := i) (by have := HCL.out; omega)
        obtain ⟨be, oe, z, rfl, hcz, hzk⟩ := (HE1.out.below hW.out).at_ (k := i) (by have := HEL.out; omega)
        have hic : (i : Int) < (c.length : Int) := by have := HCL.out; omega
        have hie : (i : Int) < (e.length : Int) := by have := HEL.out; omega
        have hi0 : (0 : Int) ≤ (i : Int) := by omega
        have hub := HCB.out u (List.mem_of_getElem? huk.out)
        have hzb := HEB.out z (List.mem_of_getElem? hzk.out)
        have hwr : IntKind.i64.wrap (u - z) = u - z := by rw [IntKind.wrap_i64]; omega
        clear hub hzb
        by_cases hge : least ≤ u - z
        · have hd : decide (least ≤ u - z) = true := decide_eq_true hge
          have he := heavyL_yes hyk huk hzk hge
          clear hge huk hzk hyk
          have he2 : ascOf (heavyL k c e least (i + 1)) = insA y o := by rw [he, ascOf_snoc, ho.out]
          have hl2 : (insA y o).length ≤ i + 1 := by have := @insA_length y o; have := hol.out; omega
          obtain ⟨o', ho'⟩ : ∃ o', o' = insA y o := ⟨_, rfl⟩
          rw [← ho'] at he2 hl2
          have HE2 := hid he2
          have HL2 := hid hl2
          clear he he2 hl2
          go_wp2
          go_quiet (fail)
          obtain ⟨wq, hwq⟩ : ∃ q, q = wr.drewN nq := ⟨_, rfl⟩
          rw [← hwq]
          have hOq : Hid (OwnS (Value.int .i64) wq w1.heap.size 2 A' o) := by rw [hwq]; exact hO.out
          have hWq : Hid (Below w1.heap.size w1 wq) := by rw [hwq]; exact below_drewN hW.out _
          have hcyq : wq.cell? ⟨bk, ok + i, none⟩ = some (.int .i64 y) := by rw [hwq]; exact hcy
          have hbq : Hid (Blk wq w.heap.size 33 [.int .i64 r, .slice (some ⟨bk, ok, none⟩) k.length c1, .slice (some ⟨bc, oc, none⟩) c.length c2, .slice (some ⟨be, oe, none⟩) e.length c3]) := by rw [hwq]; exact br.out.drewN _
          clear hwq q0 q1 q2 q3 hcy hcu hcz hlr br hO hW
          obtain ⟨q0, q1, q2, q3⟩ := hbq.out.cells4
          have C1 : Hid (Calls Try.prog 60 #[.slice A' o.length c', .int .i64 y] wq (RetL (Value.int .i64) 2 wq o')) := ho' ▸ l00Put_any A' c' o y wq hOq.out.rd (by omega)
          clear ho'
          go_wp2_with (go_at_call 60; with_reducible refine C1.out.mono ?_)
          rintro en w2 ⟨A2', c2', rfl, hO1, hb⟩
          have O1 := hid (hO1.mono hWq.out.size)
          have W1 := hid (hWq.out.trans (hb.mono hWq.out.size))
          clear hO1 hb C1 q0 q1 q2 q3
          go_wp2
          exact ⟨⟨i + 1, by omega, by go_num, o', HE2, HL2, W1, A2', c2', rfl, O1⟩, by simp [intOf]; omega⟩
        · have hd : decide (least ≤ u - z) = false := decide_eq_false hge
          have he := heavyL_no (k := k) huk hzk hge
          clear hge huk hzk hyk
          have HE2 : Hid (ascOf (heavyL k c e least (i + 1)) = o) := by show _ = _; rw [he]; exact ho.out
          have HL2 : Hid (o.length ≤ i + 1) := by show _ ≤ _; have := hol.out; omega
          clear he
          go_wp2
          go_quiet (fail)
          go_wp2
          exact ⟨⟨i + 1, by omega, by go_num, _, HE2, HL2, below_drewN hW.out _, A', c', rfl, hO⟩, by simp [intOf]; omega⟩
      · have hi : ¬ (i : Int) < (k.length : Int) := by omega
        have he := ho.out
        rw [show i = k.length by omega] at he
        have HE2 := hid he
        clear he ho
        go_wp2
        go_ret2
        rw [show ascOf (heavyL k c e least k.length) = o from HE2.out]
        exact ⟨A', c', rfl, hO.out.mono Z1.out.size, by show o.length ≤ _; omega, Z1.out.trans (hW.out.mono Z1.out.size)⟩
set_option maxRecDepth 100000 in
set_option maxHeartbeats 3200000 in
theorem iHeavyTops_any (r : Int) (A1 : Option Addr) (c1 : Nat) (k : List Int) (A2 : Option Addr) (c2 : Nat) (c : List Int) (A3 : Option Addr) (c3 : Nat) (e : List Int) (least : Int) (w : World) (hr : W64 r) (hk : RdL (Value.int .i64) w A1 k) (hnk : k.length ≤ 1048576) (wk : ∀ y ∈ k, W64 y) (hc : RdL (Value.int .i64) w A2 c) (hnc : c.length ≤ 1048576) (wc : ∀ y ∈ c, W64 y) (he : RdL (Value.int .i64) w A3 e) (hne : e.length ≤ 1048576) (we : ∀ y ∈ e, W64 y) (hleast : W64 least) (hcap : k.length ≤ c1 := by exact Nat.le_refl _) (hcap2 : c1 ≤ 1048576 := by assumption) :
    Calls Try.prog 27 #[.agg #[.int .i64 r, .slice A1 k.length c1, .slice A2 c.length c2, .slice A3 e.length c3], .int .i64 least] w (RetHB w (pHeavyTops r k c e least)) := by
  have WKE := hid (And.intro wk (And.intro wc we))
  have HK := hid (hk.below (below_a1 w (.cells #[.int .i64 r, .slice A1 k.length c1, .slice A2 c.length c2, .slice A3 e.length c3] 33)))
  have HC := hid (hc.below (below_a1 w (.cells #[.int .i64 r, .slice A1 k.length c1, .slice A2 c.length c2, .slice A3 e.length c3] 33)))
  have HE := hid (he.below (below_a1 w (.cells #[.int .i64 r, .slice A1 k.length c1, .slice A2 c.length c2, .slice A3 e.length c3] 33)))
  have b0 := hid (Blk.new w 33 [.int .i64 r, .slice A1 k.length c1, .slice A2 c.length c2, .slice A3 e.length c3])
  clear hk hc he wk wc we
  cases hv : vTops r k c e with
  | false =>
    have hp : pHeavyTops r k c e least = ([], false) := by simp [pHeavyTops, hv]
    rw [hp]
    clear hp
    refine Calls.mono ?_ retHB_no
    go_enter Try.func27, Try.ntmps27
    go_wp2_with fail
    refine (ValidTops_any r A1 c1 k A2 c2 c A3 c3 e _ hr HK.out hnk WKE.out.1 HC.out hnc WKE.out.2.1 HE.out hne WKE.out.2.2).mono ?_
    rw [hv]
    rintro en w1 ⟨rfl, hb1⟩
    have S1 := below_call (below_a1 _ _) hb1
    go_wp2
    go_ret2
    exact ⟨rfl, S1.out⟩
  | true =>
    obtain ⟨⟨hr1, hr2⟩, hkr, hcl, hel, hcb, heb, _, hnd⟩ := vTops_iff hv
    have HCL := hid hcl
    have HEL := hid hel
    have HCB := hid hcb
    have HEB := hid heb
    have hk32 : k.length ≤ 32 := by omega
    have hp : pHeavyTops r k c e least = (sortI (heavyL k c e least k.length), true) := by rw [sort_filter (heavyL_nodup hnd)]; simp [pHeavyTops, hv]
    rw [hp]
    clear hp hcl hel hcb heb hnd
    go_enter Try.func27, Try.ntmps27
    go_wp2_with fail
    refine (ValidTops_any r A1 c1 k A2 c2 c A3 c3 e _ hr HK.out hnk WKE.out.1 HC.out hnc WKE.out.2.1 HE.out hne WKE.out.2.2).mono ?_
    rw [hv]
    rintro en w1 ⟨rfl, hb1⟩
    have S1 := below_call (below_a1 _ _) hb1
    clear hv
    have S1' := hid hb1
    clear hb1 S1
    have S1 := S1'
    clear S1'
    have b1 := hid (b0.out.below S1.out)
    have HK1 := hid (HK.out.below S1.out)
    have HC1 := hid (HC.out.below S1.out)
    have HE1 := hid (HE.out.below S1.out)
    have Z1 := hid ((below_a1 w (.cells #[.int .i64 r, .slice A1 k.length c1, .slice A2 c.length c2, .slice A3 e.length c3] 33)).trans (S1.out.mono (below_a1 w (.cells #[.int .i64 r, .slice A1 k.length c1, .slice A2 c.length c2, .slice A3 e.length c3] 33)).size))
    clear S1 b0 HK HC HE
    obtain ⟨q0, q1, q2, q3⟩ := b1.out.cells4
    have hlw1 : w.heap.size < w1.heap.size := b1.out.lt
    go_wp2
    clear q0 q1 q2 q3
    go_loopw [6, 16] (fun v j wr => ∃ i : Nat, i ≤ k.length ∧ j = .int .i64 i ∧ ∃ o, Hid (heavyL k c e least i = o) ∧ Hid (o.length ≤ i) ∧ Hid (Below w1.heap.size w1 wr) ∧ Hid (OwnV wr w1.heap.size v o)) (fun _ j _ => k.length - (intOf j).toNat)
    case atStart => exact ⟨0, Nat.zero_le _, rfl, [], rfl, Nat.zero_le _, below_a1 _ _, OwnV.made _ (Nat.le_refl _)⟩
    case round =>
      obtain ⟨i, hik, rfl, o, ho, hol, hW, hO⟩ := hrel
      have hol2 : o.length ≤ 32 := by have := hol.out; omega
      have br := hid (b1.out.below hW.out)
      obtain ⟨q0, q1, q2, q3⟩ := br.out.cells4
      have hlr : w.heap.size < wr.heap.size := br.out.lt
      by_cases hlt : i < k.length
      · have hi : (i : Int) < (k.length : Int) := by omega
        obtain ⟨bk, ok, y, rfl, hcy, hyk⟩ := (HK1.out.below hW.out).at_ hlt
        obtain ⟨bc, oc, u, rfl, hcu, huk⟩ := (HC1.out.below hW.out).at_ (k := i) (by have := HCL.out; omega)
        obtain ⟨be, oe, z, rfl, hcz, hzk⟩ := (HE1.out.below hW.out).at_ (k := i) (by have := HEL.out; omega)
        have hic : (i : Int) < (c.length : Int) := by have := HCL.out; omega
        have hie : (i : Int) < (e.length : Int) := by have := HEL.out; omega
        have hi0 : (0 : Int) ≤ (i : Int) := by omega
        have hub := HCB.out u (List.mem_of_getElem? huk.out)
        have hzb := HEB.out z (List.mem_of_getElem? hzk.out)
        have hwr : IntKind.i64.wrap (u - z) = u - z := by rw [IntKind.wrap_i64]; omega
        clear hub hzb
        by_cases hge : least ≤ u - z
        · have hd : decide (least ≤ u - z) = true := decide_eq_true hge
          have he := heavyL_yes hyk huk hzk hge
          clear hge huk hzk hyk
          have he2 : heavyL k c e least (i + 1) = o ++ [y] := by rw [he, ho.out]
          have HE2 := hid he2
          have hl2 : Hid ((o ++ [y]).length ≤ i + 1) := by show _ ≤ _; have := hol.out; simp; omega
          have hol3 : o.length ≤ 1048577 := by omega
          clear he he2
          go_wp2
          go_quiet (fail)
          obtain ⟨wq, hwq⟩ : ∃ q, q = wr.drewN nq := ⟨_, rfl⟩
          rw [← hwq]
          have hOq : Hid (OwnV wq w1.heap.size u6 o) := by rw [hwq]; exact hO.out.drewN _
          have hWq : Hid (Below w1.heap.size w1 wq) := by rw [hwq]; exact below_drewN hW.out _
          clear hwq q0 q1 q2 q3 hcy hcu hcz hlr br hO hW
          go_wp2_with (at_builtin; refine app_int rfl _ _ rfl y hOq.out hWq.out rfl rfl hol3 hWq.out.size ?_)
          intro v2 w2 O2 W2 hg2 _
          go_wp2
          exact ⟨⟨i + 1, by omega, by go_num, _, HE2, hl2, W2, O2⟩, by simp [intOf]; omega⟩
        · have hd : decide (least ≤ u - z) = false := decide_eq_false hge
          have he := heavyL_no (k := k) huk hzk hge
          clear hge huk hzk hyk
          have HE2 : Hid (heavyL k c e least (i + 1) = o) := by show _ = _; rw [he]; exact ho.out
          have HL2 : Hid (o.length ≤ i + 1) := by show _ ≤ _; have := hol.out; omega
          clear he
          go_wp2
          go_quiet (fail)
          go_wp2
          exact ⟨⟨i + 1, by omega, by go_num, _, HE2, HL2, below_drewN hW.out _, hO⟩, by simp [intOf]; omega⟩
      · have hi : ¬ (i : Int) < (k.length : Int) := by omega
        have he := ho.out
        rw [show i = k.length by omega] at he
        have HE2 := hid he
        clear he ho
        obtain ⟨A', c', rfl, hc', hoS⟩ := hO.out.parts
        have HOS := hid hoS
        clear hoS hO
        go_wp2_with fail
        refine (sort_any A' c' o wr w1.heap.size HOS.out hW.out.size (by omega)).mono ?_
        rintro en w2 ⟨rfl, hO2, hb2, _⟩
        have O2 := hid hO2
        have W2 := hid (hW.out.trans hb2)
        have hsl := sortI_length o
        clear hO2 hb2
        go_wp2
        go_ret2
        rw [show heavyL k c e least k.length = o from HE2.out]
        exact ⟨A', c', by rw [hsl]; rfl, O2.out.mono Z1.out.size, by show (sortI o).length ≤ _; omega, Z1.out.trans (W2.out.mono Z1.out.size)⟩
end Go.Proofs.Ytbodfepfapjikaa
