/-
  What MergeTops of the program calls: whether a slice holds a number, tops if valid, the upper bound as a closure, how two keys compare by it; by contracts.
-/
import Derived.Test.YtbodfepfapjikaaMTopA
import Derived.Test.YtbodfepfapjikaaStab4
import Derived.Test.YtbodfepfapjikaaCellsAt
namespace Go.Proofs.Ytbodfepfapjikaa
open Go.RowKit Go.Shelf
set_option linter.unusedVariables false
set_option linter.unusedSimpArgs false

theorem hasI_idx (x : List Int) (v : Int) : decide (0 ≤ idxP (fun y => y == v) x) = hasI x v := by
  unfold idxP hasI
  cases h : x.findIdx? (fun y => y == v) with
  | none =>
    rw [List.findIdx?_eq_none_iff] at h
    have : (x.any fun y => y == v) = false := by
      rw [List.any_eq_false]
      intro y hy
      simpa using h y hy
    rw [this]; rfl
  | some i =>
    obtain ⟨hi, he⟩ := List.findIdx?_eq_some_iff_findIdx_eq.1 h
    have : (x.any fun y => y == v) = true := by
      rw [List.any_eq_true]
      refine ⟨x[i], List.getElem_mem _, ?_⟩
      have h2 := List.findIdx_getElem (p := fun y => y == v) (xs := x) (w := by omega)
      simpa [he] using h2
    rw [this]; simp
theorem contains_any (A : Option Addr) (c : Nat) (x : List Int) (v : Int) (w : World) (hx : RdL (Value.int .i64) w A x) (hn : x.length ≤ 1048576) :
    Calls Try.prog 91 #[.slice A x.length c, .int .i64 v] w fun e w' => e = .returned (.bool (hasI x v)) ∧ w = w' := by
  have C := hid (slIndexG_any A c x v w hx hn)
  have HI := hid (hasI_idx x v)
  obtain ⟨z, hz⟩ : ∃ z, z = idxP (fun y => y == v) x := ⟨_, rfl⟩
  rw [← hz] at C HI
  clear hx hz
  go_enter Try.func91, Try.ntmps91
  go_wp2_with (go_at_call 118; ((with_reducible refine C.out.mono ?_); rintro e w' ⟨rfl, rfl⟩))
  go_ret
  exact ⟨ret_bool (by rw [← HI.out]), rfl⟩
/-- Tops that are given if they are valid. -/
def GiveTp (r : Int) (k c e : List Int) (A1 : Option Addr) (n1 c1 : Nat) (A2 : Option Addr) (n2 c2 : Nat) (A3 : Option Addr) (n3 c3 : Nat) (b0 : Int) (B1 : Option Addr) (m1 d1 : Nat) (B2 : Option Addr) (m2 d2 : Nat) (B3 : Option Addr) (m3 d3 : Nat) (t : Bool) : Prop :=
  (vTops r k c e = true ∧ b0 = r ∧ (B1 = A1 ∧ m1 = n1 ∧ d1 = c1) ∧ (B2 = A2 ∧ m2 = n2 ∧ d2 = c2) ∧ (B3 = A3 ∧ m3 = n3 ∧ d3 = c3) ∧ t = true) ∨
  (vTops r k c e = false ∧ b0 = 0 ∧ (B1 = none ∧ m1 = 0 ∧ d1 = 0) ∧ (B2 = none ∧ m2 = 0 ∧ d2 = 0) ∧ (B3 = none ∧ m3 = 0 ∧ d3 = 0) ∧ t = false)
set_option maxHeartbeats 1600000 in
theorem ifTops_any (r : Int) (A1 : Option Addr) (c1 : Nat) (k : List Int) (A2 : Option Addr) (c2 : Nat) (c : List Int) (A3 : Option Addr) (c3 : Nat) (e : List Int) (w : World) (hr : W64 r) (hk : RdL (Value.int .i64) w A1 k) (hnk : k.length ≤ 1048576) (wk : ∀ y ∈ k, W64 y) (hc : RdL (Value.int .i64) w A2 c) (hnc : c.length ≤ 1048576) (wc : ∀ y ∈ c, W64 y) (he : RdL (Value.int .i64) w A3 e) (hne : e.length ≤ 1048576) (we : ∀ y ∈ e, W64 y) :
    Calls Try.prog 96 #[.agg #[.int .i64 r, .slice A1 k.length c1, .slice A2 c.length c2, .slice A3 e.length c3]] w fun en w' => ∃ b0 B1 m1 d1 B2 m2 d2 B3 m3 d3 t,
      en = .returned (.tuple #[.agg #[.int .i64 b0, .slice B1 m1 d1, .slice B2 m2 d2, .slice B3 m3 d3], .bool t]) ∧ GiveTp r k c e A1 k.length c1 A2 c.length c2 A3 e.length c3 b0 B1 m1 d1 B2 m2 d2 B3 m3 d3 t ∧ Below w.heap.size w w' := by
  have C := hid (fun (w' : World) (hb : Below w.heap.size w w') => ValidTops_any r A1 c1 k A2 c2 c A3 c3 e w' hr (hk.below hb) hnk wk (hc.below hb) hnc wc (he.below hb) hne we)
  have B0 := hid ((Blk.new w 33 [.int .i64 r, .slice A1 k.length c1, .slice A2 c.length c2, .slice A3 e.length c3]).alloc (.cells #[.int .i64 0, .slice none 0 0, .slice none 0 0, .slice none 0 0] 33))
  have R0 := hid (Blk.new2 w (.cells #[.int .i64 r, .slice A1 k.length c1, .slice A2 c.length c2, .slice A3 e.length c3] 33) 33 [.int .i64 0, .slice none 0 0, .slice none 0 0, .slice none 0 0])
  clear hr hk wk hc wc he we
  cases hv : vTops r k c e with
  | true =>
    go_enter Try.func96, Try.ntmps96
    go_wp2_with fail
    refine (C.out _ (below_a2 _ _ _)).mono ?_
    rw [hv]
    rintro en w1 ⟨rfl, hb⟩
    obtain ⟨k0, k1, k2, k3⟩ := (B0.out.below hb).cells4
    obtain ⟨d0, d1, d2, d3⟩ := (R0.out.below hb).cells4
    have f0 := (R0.out.below hb).frozen 0
    have f1 := (R0.out.below hb).frozen 1
    have f2 := (R0.out.below hb).frozen 2
    have f3 := (R0.out.below hb).frozen 3
    have S1 := below_call (below_a2 _ _ _) hb
    have HV := hid hv
    clear hb B0 R0 hv C
    go_wp2
    refine bodyPost_ret (v := .tuple #[.agg #[.int .i64 r, .slice A1 k.length c1, .slice A2 c.length c2, .slice A3 e.length c3], .bool true]) (by simp [results, Try.results96, go_sem, d0, d1, d2, d3]) rfl ⟨r, A1, k.length, c1, A2, c.length, c2, A3, e.length, c3, true, rfl, .inl ⟨HV.out, rfl, ⟨rfl, rfl, rfl⟩, ⟨rfl, rfl, rfl⟩, ⟨rfl, rfl, rfl⟩, rfl⟩, ?_⟩
    exact (((S1.out.setCell (by simp) _).setCell (by simp) _).setCell (by simp) _).setCell (by simp) _
  | false =>
    go_enter Try.func96, Try.ntmps96
    go_wp2_with fail
    refine (C.out _ (below_a2 _ _ _)).mono ?_
    rw [hv]
    rintro en w1 ⟨rfl, hb⟩
    obtain ⟨d0, d1, d2, d3⟩ := (R0.out.below hb).cells4
    have f0 := (R0.out.below hb).frozen 0
    have f1 := (R0.out.below hb).frozen 1
    have f2 := (R0.out.below hb).frozen 2
    have f3 := (R0.out.below hb).frozen 3
    have S1 := below_call (below_a2 _ _ _) hb
    have HV := hid hv
    clear hb B0 R0 hv C
    go_wp2
    refine bodyPost_ret (v := .tuple #[.agg #[.int .i64 0, .slice none 0 0, .slice none 0 0, .slice none 0 0], .bool false]) (by simp [results, Try.results96, go_sem, d0, d1, d2, d3]) rfl ⟨0, none, 0, 0, none, 0, 0, none, 0, 0, false, rfl, .inr ⟨HV.out, rfl, ⟨rfl, rfl, rfl⟩, ⟨rfl, rfl, rfl⟩, ⟨rfl, rfl, rfl⟩, rfl⟩, ?_⟩
    exact (((S1.out.setCell (by simp) _).setCell (by simp) _).setCell (by simp) _).setCell (by simp) _
/-- Tops lie in the box p, valid, and their slices can be read. -/
structure TpB (w : World) (p : Nat) (r : Int) (k c e : List Int) : Prop where
  lies : ∃ A1 c1 A2 c2 A3 c3, (w.cell? ⟨p, 0, none⟩ = some (.int .i64 r) ∧ w.cell? ⟨p, 1, none⟩ = some (.slice A1 k.length c1) ∧ w.cell? ⟨p, 2, none⟩ = some (.slice A2 c.length c2) ∧ w.cell? ⟨p, 3, none⟩ = some (.slice A3 e.length c3)) ∧
    RdL (Value.int .i64) w A1 k ∧ RdL (Value.int .i64) w A2 c ∧ RdL (Value.int .i64) w A3 e
  valid : vTops r k c e = true
theorem TpB.below {w w' : World} {p : Nat} {r : Int} {k c e : List Int} (h : TpB w p r k c e) (hb : Below w.heap.size w w') : TpB w' p r k c e := by
  obtain ⟨⟨A1, c1, A2, c2, A3, c3, ⟨h0, h1, h2, h3⟩, k1, k2, k3⟩, hv⟩ := h
  have f : ∀ {a v}, w.cell? a = some v → w'.cell? a = some v := fun {a v} h => (hb.cell (World.block_lt_of_cell? w a h)).trans h
  exact ⟨⟨A1, c1, A2, c2, A3, c3, ⟨f h0, f h1, f h2, f h3⟩, k1.below hb, k2.below hb, k3.below hb⟩, hv⟩
set_option maxHeartbeats 1600000 in
theorem upper_any (p q : Nat) (r : Int) (ka ca ea : List Int) (r' : Int) (kb cb eb : List Int) (key : Int) (w : World) (ha : TpB w p r ka ca ea) (hb : TpB w q r' kb cb eb) :
    Calls Try.prog 92 #[.int .i64 key, .pointer (some ⟨p, 0, none⟩), .pointer (some ⟨q, 0, none⟩)] w fun e w' => e = .returned (.int .i64 (upT r ka ca ea r' kb cb eb key)) ∧ Below w.heap.size w w' := by
  have b1 := bndT_bd ha.valid key
  have b2 := bndT_bd hb.valid key
  have HB := hid hb
  obtain ⟨⟨A1, c1, A2, c2, A3, c3, ⟨h0, h1, h2, h3⟩, k1, k2, k3⟩, hv⟩ := ha
  have C1 := hid (ibounds_any r A1 c1 ka A2 c2 ca A3 c3 ea key w k1 k2 k3 hv)
  have hU : Hid (upT r ka ca ea r' kb cb eb key = (bndT r ka ca ea key).2 + (bndT r' kb cb eb key).2) := rfl
  obtain ⟨la, hla⟩ : ∃ z, z = (bndT r ka ca ea key).1 := ⟨_, rfl⟩
  obtain ⟨xa, hxa⟩ : ∃ z, z = (bndT r ka ca ea key).2 := ⟨_, rfl⟩
  obtain ⟨lb, hlb⟩ : ∃ z, z = (bndT r' kb cb eb key).1 := ⟨_, rfl⟩
  obtain ⟨xb, hxb⟩ : ∃ z, z = (bndT r' kb cb eb key).2 := ⟨_, rfl⟩
  rw [← hla, ← hxa] at C1 b1
  rw [← hlb, ← hxb] at b2
  rw [← hxa, ← hxb] at hU
  have LB := hid hlb
  have XB := hid hxb
  clear hb k1 k2 k3 hv hla hxa hlb hxb
  go_enter Try.func92, Try.ntmps92
  go_wp2_with fail
  refine C1.out.mono ?_
  rintro e w1 ⟨rfl, hb1⟩
  have S1 := hid hb1
  obtain ⟨⟨B1, d1, B2, d2, B3, d3, ⟨m0, m1, m2, m3⟩, n1, n2, n3⟩, hv'⟩ := HB.out.below hb1
  have C2 := hid (ibounds_any r' B1 d1 kb B2 d2 cb B3 d3 eb key w1 n1 n2 n3 hv')
  rw [← LB.out, ← XB.out] at C2
  clear hb1 n1 n2 n3 hv' h0 h1 h2 h3 C1
  go_wp2_with fail
  refine C2.out.mono ?_
  rintro e w2 ⟨rfl, hb2⟩
  have S2 := hid (S1.out.trans (hb2.mono S1.out.size))
  clear hb2 m0 m1 m2 m3 C2
  go_wp2
  go_ret
  exact ⟨ret_int hU.out.symm, S2.out⟩
/-- The function value in the box t. -/
def FnBox (w : World) (t p q : Nat) : Prop := w.cell? ⟨t, 0, none⟩ = some (.func (.func 92) #[] #[.pointer (some ⟨p, 0, none⟩), .pointer (some ⟨q, 0, none⟩)])
set_option maxHeartbeats 1600000 in
theorem cmpUp_any (t p q : Nat) (r : Int) (ka ca ea : List Int) (r' : Int) (kb cb eb : List Int) (x y : Int) (w : World) (hf : FnBox w t p q) (ha : TpB w p r ka ca ea) (hb : TpB w q r' kb cb eb) :
    Calls Try.prog 94 #[.int .i64 x, .int .i64 y, .pointer (some ⟨t, 0, none⟩)] w fun e w' => e = .returned (.int .i64 (cmpI (upT r ka ca ea r' kb cb eb y) (upT r ka ca ea r' kb cb eb x))) ∧ Below w.heap.size w w' := by
  have HA := hid ha
  have HB := hid hb
  have eg : ∀ args w, (callFunc 92 args).run Try.prog w = .ok (.enter 92 args) w := enters_of Try.func92 (by kernel_rfl) rfl
  have k1 : ∀ p', (behind w p').cell? ⟨t, 0, none⟩ = some (.func (.func 92) #[] #[.pointer (some ⟨p, 0, none⟩), .pointer (some ⟨q, 0, none⟩)]) := cell_behind hf
  obtain ⟨ux, hux⟩ : ∃ z, z = upT r ka ca ea r' kb cb eb x := ⟨_, rfl⟩
  obtain ⟨uy, huy⟩ : ∃ z, z = upT r ka ca ea r' kb cb eb y := ⟨_, rfl⟩
  have CX : Hid (∀ p', Calls Try.prog 92 #[.int .i64 x, .pointer (some ⟨p, 0, none⟩), .pointer (some ⟨q, 0, none⟩)] (behind w p') fun e w'' => e = .returned (.int .i64 ux) ∧ ∃ q : BehindBy, w'' = behind w q) := fun p' => by
    rw [hux]; exact calls_behind (upper_any p q r ka ca ea r' kb cb eb x _ (HA.out.below (behind_below w p')) (HB.out.below (behind_below w p')))
  have CY : Hid (∀ p', Calls Try.prog 92 #[.int .i64 y, .pointer (some ⟨p, 0, none⟩), .pointer (some ⟨q, 0, none⟩)] (behind w p') fun e w'' => e = .returned (.int .i64 uy) ∧ ∃ q : BehindBy, w'' = behind w q) := fun p' => by
    rw [huy]; exact calls_behind (upper_any p q r ka ca ea r' kb cb eb y _ (HA.out.below (behind_below w p')) (HB.out.below (behind_below w p')))
  have CC : Hid (∀ p', Calls Try.prog 95 #[.int .i64 uy, .int .i64 ux] (behind w p') fun e w'' => e = .returned (.int .i64 (cmpI uy ux)) ∧ ∃ q : BehindBy, w'' = behind w q) := fun p' => calls_behind ((compare_any uy ux _).mono fun _ _ ⟨h, h'⟩ => ⟨h, by rw [← h']; exact Below.refl _ _⟩)
  rw [← hux, ← huy]
  clear ha hb hf hux huy
  go_enter Try.func94, Try.ntmps94
  go_wp2
  refine wp_region_quiet_below (by kernel_rfl) (by kernel_rfl) ?_
  repeat (quiet_step ((first | (go_at_call 92; first | with_reducible exact CY.out _ | with_reducible exact CX.out _) | (go_at_call 95; exact CC.out _))))
  refine wpQuiet_nil ?_
  intro w3 hw3
  have hbb := hid (behind_all hw3)
  clear hw3 k1
  go_wp2
  go_ret
  exact ⟨rfl, hbb.out⟩
end Go.Proofs.Ytbodfepfapjikaa
