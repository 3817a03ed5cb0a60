/-
  FnLayered: the walk of the law.
-/
import Derived.Test.YtmafkkpdcajfoaaLayeredP
import Derived.Test.YtmafkkpdcajfoaaB10
import Derived.Test.YtmafkkpdcajfoaaPutLI
import Derived.Test.YtmafkkpdcajfoaaHeavyI
import Derived.Test.YtmafkkpdcajfoaaExact
import Derived.Deep.QuietTactic
namespace Go.Proofs.Ytmafkkpdcajfoaa
open Go.RowKit
set_option linter.unusedVariables false
set_option linter.unusedSimpArgs false

/-- Layers of the call's own, and yes. -/
def RetCS8 (w : World) (a0 a1 a2 : Nat) (X : Nat → List Int) (e : Ending) (w' : World) : Prop :=
  ∃ A c L, e = .returned (.tuple #[.slice A 8 c, .bool true]) ∧ L.map Lay.plain = layersF a0 a1 a2 X ∧ OwnC w' w.heap.size A L ∧ (∀ e ∈ L, e.x.length ≤ 384) ∧ Below w.heap.size w w'
theorem lay8 {L : List Lay} {a0 a1 a2 : Nat} {X : Nat → List Int} (h : L.map Lay.plain = layersF a0 a1 a2 X) : L.length = 8 ∧ ∀ e ∈ L, e.a = (a0 : Int) ∧ e.b = (a1 : Int) ∧ 0 ≤ e.s ∧ e.s ≤ 4294967295 ∧ ∃ j, j < 8 ∧ e.x = X j := by
  have h1 := congrArg List.length h
  simp only [List.length_map, layersF, List.length_range] at h1
  refine ⟨h1, fun e he => ?_⟩
  have h2 : e.plain ∈ layersF a0 a1 a2 X := h ▸ List.mem_map_of_mem he
  obtain ⟨j, hj, hje⟩ := List.mem_map.1 h2
  simp only [layF, Lay.plain, Prod.mk.injEq] at hje
  obtain ⟨e1, e2, e3, e4⟩ := hje
  have := salt_bd a2 j
  exact ⟨e1.symm, e2.symm, by omega, by omega, j, List.mem_range.1 hj, e4.symm⟩
theorem retCS8 {w : World} {a0 a1 a2 : Nat} {X : Nat → List Int} {e : Ending} {w' : World} (h : RetCS w (layersF a0 a1 a2 X, true) e w') : RetCS8 w a0 a1 a2 X e w' := by
  obtain ⟨A, c, L, rfl, hp, ho, _, hx, hb⟩ := h
  have hl := (lay8 hp).1
  exact ⟨A, c, L, by rw [hl], hp, ho, hx, hb⟩
theorem w64_small {z : Int} (h : -1000000000000 ≤ z ∧ z ≤ 1000000000000) : W64 z := w64_of_bounds (by omega)
theorem lay8_w64 {L : List Lay} {a0 a1 a2 : Nat} {ks : List Int} {X : Nat → List Int} (h0 : a0 ≤ 64) (h1 : a1 ≤ 6) (hk : ks.length ≤ 1000) (hg : LayGood a0 a1 a2 ks X) (h : L.map Lay.plain = layersF a0 a1 a2 X) : W64L L := fun e he => by
  obtain ⟨e1, e2, e3, e4, j, hj, e5⟩ := (lay8 h).2 e he
  refine ⟨w64_small (by omega), w64_small (by omega), w64_small (by omega), fun y hy => ?_⟩
  rw [e5] at hy
  obtain ⟨m, hm, rfl⟩ := mem_getD hy
  have := hg.bd j hj m (by rw [← hg.len j hj]; exact hm)
  exact w64_small (by omega)
theorem put8 {A : Option Addr} {c : Nat} {L : List Lay} {a0 a1 a2 key : Nat} {ks : List Int} {X : Nat → List Int} (w : World) (h0 : 2 ≤ a0 ∧ a0 ≤ 64) (h1 : 1 ≤ a1 ∧ a1 ≤ 6) (ha : a2 < 4294967296) (hk : ks.length < 1000) (hkey : key < 4294967296) (hg : LayGood a0 a1 a2 ks X) (hm : L.map Lay.plain = layersF a0 a1 a2 X) (hr : RdC w A L) (hl : ∀ e ∈ L, e.x.length ≤ 384) :
    Calls Try.prog 9 #[.slice A 8 c, .int .i64 key, .int .i64 1] w (RetCS8 w a0 a1 a2 (putX a0 a1 a2 X key)) := by
  have h := iPutLayers_any A c L (key : Int) 1 w hr (by have := (lay8 hm).1; omega) (fun e he => by have := hl e he; omega) (lay8_w64 h0.2 h1.2 (by omega) hg hm) (w64_small (by omega)) (w64_small (by omega))
  rw [(lay8 hm).1, hm, put_layers h0 h1 ha hk hkey hg] at h
  exact h.mono fun _ _ h => retCS8 h
/-- The first i keys, turned. -/
def mulT (i : Nat) (K : List Int) : List Int := (K.take i).map (· * 477218588) ++ K.drop i
theorem mulT_length (i : Nat) (K : List Int) : (mulT i K).length = K.length := by simp [mulT]; omega
theorem mulT_at {i : Nat} {K : List Int} {y : Int} (h : K[i]? = some y) : (mulT i K)[i]? = some y ∧ (mulT i K).set i (y * 477218588) = mulT (i + 1) K := by
  obtain ⟨hi, rfl⟩ := List.getElem?_eq_some_iff.1 h
  have hl : ((K.take i).map (· * 477218588)).length = i := by simp; omega
  constructor
  · rw [mulT, List.getElem?_append_right (by omega), hl]; simp [hi]
  · rw [mulT, mulT, List.set_append_right _ _ (by omega), hl, Nat.sub_self, List.drop_eq_getElem_cons hi, List.set_cons_zero, List.take_add_one, List.getElem?_eq_getElem hi, Option.toList_some, List.map_append, List.append_assoc]
    rfl
theorem mulT_all (K : List Int) : mulT K.length K = K.map (· * 477218588) := by simp [mulT]
theorem heavy_yes {P : List (Int × Int × Int × List Int)} {least : Int} {pl : List Int} (h : pHeavyLayers P least = (pl, true)) : heavyP least P [0] = some pl := by
  unfold pHeavyLayers at h
  split at h
  · cases h2 : heavyP least P [0] with
    | none => rw [h2] at h; injection h with _ h; cases h
    | some l => rw [h2] at h; injection h with h _; rw [h]
  · injection h with _ h; cases h
theorem keysQ_mk {x : List Int} (h1 : x.length ≤ 256) (h2 : ∀ y ∈ x, 0 ≤ y ∧ y < 4294967296) : keysQ x = true := by
  simp only [keysQ, Bool.and_eq_true, decide_eq_true_eq]
  refine ⟨by omega, ?_⟩
  unfold allB
  rw [List.all_eq_true]
  intro y hy
  have := h2 y hy
  exact inB_iff.2 (by omega)
theorem asc_nodup {d : List Int} (h : Asc d) : d.Nodup := List.Pairwise.imp (fun h => by omega) h
theorem asc_next {d : List Int} (h : Asc d) {i : Nat} {u v : Int} (hu : d[i]? = some u) (hv : d[i + 1]? = some v) : u < v := by
  obtain ⟨h1, rfl⟩ := List.getElem?_eq_some_iff.1 hu
  obtain ⟨h2, rfl⟩ := List.getElem?_eq_some_iff.1 hv
  exact List.pairwise_iff_getElem.1 h i (i + 1) h1 h2 (by omega)
set_option maxRecDepth 100000 in
set_option maxHeartbeats 6400000 in
theorem FnLayered_any (A : Option Addr) (c : Nat) (x : List Int) (A' : Option Addr) (c' : Nat) (y : List Int) (w : World) (hx : RdL (Value.int .u8) w A x) (hm : x.length ≤ 9223372036854775807) (hbx : Byt x) (hy : RdL (Value.int .u8) w A' y) (hm' : y.length ≤ 9223372036854775807) (hby : Byt y) :
    Calls Try.prog 3 #[.slice A x.length c, .slice A' y.length c'] w fun e w' => e = .returned (.bool true) ∧ Below w.heap.size w w' := by
  have HX := hid hx
  have HY := hid hy
  have BX := hid hbx
  have BY := hid hby
  clear hx hy hbx hby
  by_cases hlong : 1048576 < x.length ∨ 1048576 < y.length
  · have hd : decide (1048576 < x.length ∨ 1048576 < y.length) = true := decide_eq_true hlong
    have C0 : Hid (∀ w, Calls Try.prog 5 #[.slice A x.length c, .slice A' y.length c'] w fun e w' => e = .returned (.bool true) ∧ w = w') := fun w => hd ▸ b10Long_any A A' x.length y.length c c' w
    clear hd hlong
    go_enter Try.func3, Try.ntmps3
    go_wp2_with (go_at_call 5; refine (C0.out _).mono ?_; rintro e w' ⟨rfl, rfl⟩)
    go_ret
    exact ⟨rfl, Below.refl _ _⟩
  have hd : decide (1048576 < x.length ∨ 1048576 < y.length) = false := decide_eq_false hlong
  have C0 : Hid (∀ w, Calls Try.prog 5 #[.slice A x.length c, .slice A' y.length c'] w fun e w' => e = .returned (.bool false) ∧ w = w') := fun w => hd ▸ b10Long_any A A' x.length y.length c c' w
  have hn : x.length ≤ 1048576 := by omega
  have hn' : y.length ≤ 1048576 := by omega
  have CA : Hid (∀ (i n : Int) w', RdL (Value.int .u8) w' A' y → 0 ≤ i → i ≤ 1000 → 1 < n → n ≤ 256 → Calls Try.prog 7 #[.slice A' y.length c', .int .i64 i, .int .i64 n] w' fun e w'' => (∃ r, e = .returned (.int .i64 r) ∧ 0 ≤ r ∧ r < n) ∧ w' = w'') := fun i n w' h1 h2 h3 h4 h5 => b10At_any A' c' y i n w' h1 BY.out hn' h2 h3 h4 h5
  clear hd hlong
  go_enter Try.func3, Try.ntmps3
  go_wp2_with (go_at_call 5; refine (C0.out _).mono ?_; rintro e w' ⟨rfl, rfl⟩)
  refine (CA.out 0 12 w HY.out (by decide) (by decide) (by decide) (by decide)).mono ?_
  rintro e w' ⟨⟨r0, rfl, h00, h01⟩, rfl⟩
  go_wp2_with fail
  refine (b10Keys_any A c x r0 w HX.out BX.out hn h00 (by omega)).mono ?_
  rintro e W1 ⟨v, K, rfl, hOK, hKl, hKb, hb⟩
  obtain ⟨Ak, ck, rfl, hos⟩ := hOK.ownS
  have O1 := hid hos
  have S1 := hid hb
  have KB := hid hKb
  have hK11 : K.length ≤ 11 := by omega
  clear hos hb hKb hOK hKl C0
  go_wp2
  go_loopw [31] (fun t wr => ∃ i : Nat, i ≤ K.length ∧ t = .int .i64 i ∧ Hid (OwnS (Value.int .i64) wr w.heap.size 2 Ak (mulT i K)) ∧ Hid (Below w.heap.size w wr)) (fun t _ => K.length - (intOf t).toNat)
  case atStart => exact ⟨0, Nat.zero_le _, rfl, O1, S1⟩
  case round =>
    obtain ⟨i, hi, rfl, hO, hW⟩ := hrel
    by_cases hlt : i < K.length
    · have hil : (i : Int) < (K.length : Int) := by omega
      have hi0 : (0 : Int) ≤ (i : Int) := by omega
      obtain ⟨z, hz⟩ : ∃ z, K[i]? = some z := ⟨_, List.getElem?_eq_getElem hlt⟩
      obtain ⟨g, u, rfl, hgB, hcg, hfg, hu, hput⟩ := hO.out.put (j := i) (by rw [mulT_length]; exact hlt)
      have hm2 := mulT_at hz
      obtain rfl : u = z := by have h1 := hu.out; rw [hm2.1] at h1; injection h1 with h1; exact h1.symm
      have hub := KB.out u (List.mem_of_getElem? hz)
      have v1 : IntKind.i64.wrap (u * 477218588) = u * 477218588 := by rw [IntKind.wrap_i64]; omega
      have hO2 : Hid (OwnS (Value.int .i64) (wr.setCell ⟨g, i, none⟩ (.int .i64 (u * 477218588))) w.heap.size 2 (some ⟨g, 0, none⟩) (mulT (i + 1) K)) := by rw [← hm2.2]; exact hput _
      have hW2 : Hid (Below w.heap.size w (wr.setCell ⟨g, i, none⟩ (.int .i64 (u * 477218588)))) := hW.out.setCell (by simp; omega) _
      clear hput hm2 hu hz hO hW
      go_wp2
      exact ⟨⟨i + 1, by omega, by go_num, hO2, hW2⟩, by simp [intOf]; omega⟩
    · have hil : ¬ (i : Int) < (K.length : Int) := by omega
      obtain rfl : i = K.length := by omega
      obtain ⟨ks, hks⟩ : ∃ ks, ks = K.map (· * 477218588) := ⟨_, rfl⟩
      have hkl : ks.length = K.length := by rw [hks]; simp
      have hkb : Hid (∀ z ∈ ks, 0 ≤ z ∧ z < 4294967296) := fun z hz => by
        rw [hks] at hz
        obtain ⟨u, hu, rfl⟩ := List.mem_map.1 hz
        have := KB.out u hu
        show 0 ≤ u * 477218588 ∧ u * 477218588 < 4294967296
        omega
      have hO2 : Hid (OwnS (Value.int .i64) wr w.heap.size 2 Ak ks) := by have := hO.out; rw [mulT_all, ← hks] at this; exact this
      rw [← hkl]
      rw [← hkl] at hK11
      have SW := hW
      clear hks hkl hO hW O1 KB S1 hi
      go_wp2_with fail
      refine (CA.out 1 32 wr (HY.out.below SW.out) (by decide) (by decide) (by decide) (by decide)).mono ?_
      rintro e w' ⟨⟨r1, rfl, h10, h11⟩, rfl⟩
      obtain ⟨r1, rfl⟩ := Int.eq_ofNat_of_zero_le h10
      have q1 : IntKind.i64.wrap (8 + (r1 : Int)) = ((8 + r1 : Nat) : Int) := by rw [IntKind.wrap_i64]; omega
      go_wp2_with fail
      refine (CA.out 2 3 wr (HY.out.below SW.out) (by decide) (by decide) (by decide) (by decide)).mono ?_
      rintro e w' ⟨⟨r2, rfl, h20, h21⟩, rfl⟩
      obtain ⟨r2, rfl⟩ := Int.eq_ofNat_of_zero_le h20
      have q2 : IntKind.i64.wrap (1 + (r2 : Int)) = ((1 + r2 : Nat) : Int) := by rw [IntKind.wrap_i64]; omega
      go_wp2_with fail
      refine (CA.out 3 256 wr (HY.out.below SW.out) (by decide) (by decide) (by decide) (by decide)).mono ?_
      rintro e w' ⟨⟨r3, rfl, h30, h31⟩, rfl⟩
      obtain ⟨a2, rfl⟩ := Int.eq_ofNat_of_zero_le h30
      obtain ⟨a0, ha0⟩ : ∃ a0, a0 = 8 + r1 := ⟨_, rfl⟩
      obtain ⟨a1, ha1⟩ : ∃ a1, a1 = 1 + r2 := ⟨_, rfl⟩
      have b0 : 2 ≤ a0 ∧ a0 ≤ 64 := by omega
      have b1 : 1 ≤ a1 ∧ a1 ≤ 6 := by omega
      have b2 : a2 < 4294967296 := by omega
      have CN : Hid (Calls Try.prog 8 #[.int .i64 (8 + (r1 : Int)), .int .i64 (1 + (r2 : Int)), .int .i64 (a2 : Int)] wr (RetCS8 wr a0 a1 a2 (fun _ => List.replicate (a0 * a1) 0))) := by
        have h := iNewLayers_any (a0 : Int) (a1 : Int) (a2 : Int) wr (w64_small (by omega)) (w64_small (by omega)) (w64_small (by omega))
        rw [new_layers b0 b1 b2] at h
        rw [show (8 + (r1 : Int)) = (a0 : Int) by omega, show (1 + (r2 : Int)) = (a1 : Int) by omega]
        exact h.mono fun _ _ h => retCS8 h
      clear ha0 ha1 h10 h11 h20 h21 h30 h31
      go_wp2_with fail
      refine CN.out.mono ?_
      rintro e W2 ⟨A2, c2, L2, rfl, hp2, ho2, hx2, hb2⟩
      have HP2 := hid hp2
      have HX2 := hid hx2
      have R2 := hid ho2.rd
      have S2 := hid (SW.out.trans (hb2.mono SW.out.size))
      have OK2 := hid (hO2.out.below hb2)
      have G2 : Hid (LayGood a0 a1 a2 [] (fun _ => List.replicate (a0 * a1) 0)) := good_new
      clear hp2 hx2 ho2 hb2 CN hO2 SW q1 q2
      go_wp2
      go_loopw [7, 64] (fun v t wr => ∃ (i : Nat) (X : Nat → List Int) (B : Option Addr) (cb : Nat) (L : List Lay), i ≤ ks.length ∧ t = .int .i64 i ∧ v = .slice B 8 cb ∧ Hid (L.map Lay.plain = layersF a0 a1 a2 X) ∧ Hid (LayGood a0 a1 a2 (ks.take i) X) ∧ Hid (RdC wr B L) ∧ Hid (∀ e ∈ L, e.x.length ≤ 384) ∧ Hid (Below W2.heap.size W2 wr)) (fun _ t _ => ks.length - (intOf t).toNat)
      case atStart => exact ⟨0, _, A2, c2, L2, Nat.zero_le _, rfl, rfl, HP2, by rw [List.take_zero]; exact G2, R2, HX2, Below.refl _ _⟩
      case round =>
        obtain ⟨i, X, B, cb, L, hi, rfl, rfl, hP, hG, hR, hXl, hW⟩ := hrel
        by_cases hlt : i < ks.length
        · have hil : (i : Int) < (ks.length : Int) := by omega
          have hi0 : (0 : Int) ≤ (i : Int) := by omega
          obtain ⟨b, o, z, rfl, hcz, hz⟩ := (OK2.out.below hW.out).rd.at_ hlt
          have hzb := hkb.out z (List.mem_of_getElem? hz.out)
          obtain ⟨key, rfl⟩ := Int.eq_ofNat_of_zero_le hzb.1
          have htk : (ks.take i).length < 1000 := by rw [List.length_take]; omega
          have CP := hid (put8 (c := cb) (key := key) wr b0 b1 b2 htk (by omega) hG.out hP.out hR.out hXl.out)
          have hG2 : Hid (LayGood a0 a1 a2 (ks.take (i + 1)) (putX a0 a1 a2 X key)) := by
            rw [List.take_add_one, hz.out]
            exact good_put b0.1 b1.2 hG.out
          clear hG hP hR hXl hzb hz
          go_wp2_with fail
          refine CP.out.mono ?_
          rintro e W3 ⟨B3, c3, L3, rfl, hp3, ho3, hx3, hb3⟩
          have HP3 := hid hp3
          have HX3 := hid hx3
          have R3 := hid ho3.rd
          have W3' := hid (hW.out.trans (hb3.mono hW.out.size))
          clear hp3 hx3 ho3 hb3 CP hW hcz
          go_wp2
          exact ⟨⟨i + 1, _, B3, c3, L3, by omega, by go_num, rfl, HP3, hG2, R3, HX3, W3'⟩, by simp [intOf]; omega⟩
        · have hil : ¬ (i : Int) < (ks.length : Int) := by omega
          obtain rfl : i = ks.length := by omega
          have hGa : Hid (LayGood a0 a1 a2 ks X) := by have := hG.out; rwa [List.take_of_length_le (Nat.le_refl _)] at this
          have S3 := hid (S2.out.trans (hW.out.mono S2.out.size))
          have OK3 := hid (OK2.out.below hW.out)
          clear hG hW OK2 S2 R2 HP2 HX2 G2 hi
          go_wp2_with fail
          refine (CA.out 4 4 wr (HY.out.below S3.out) (by decide) (by decide) (by decide) (by decide)).mono ?_
          rintro e w' ⟨⟨r4, rfl, h40, h41⟩, rfl⟩
          have q4 : IntKind.i64.wrap (1 + r4) = 1 + r4 := by rw [IntKind.wrap_i64]; omega
          obtain ⟨p, hp⟩ : ∃ p, p = pHeavyLayers (layersF a0 a1 a2 X) (1 + r4) := ⟨_, rfl⟩
          have hw64 := lay8_w64 b0.2 b1.2 (by omega) hGa.out hP.out
          have hl8 := (lay8 hP.out).1
          have CS : Hid (∀ w', RdC w' B L → Calls Try.prog 10 #[.slice B 8 cb, .int .i64 (1 + r4)] w' (RetHL w' p)) := fun w' hr => by
            have h := sHeavyLayers_any B cb L (1 + r4) w' hr (by omega) (fun e he => by have := hXl.out e he; omega) hw64 (w64_small (by omega))
            rw [hl8, hP.out, ← hp] at h
            exact h
          have CI : Hid (∀ w', RdC w' B L → Calls Try.prog 11 #[.slice B 8 cb, .int .i64 (1 + r4)] w' (RetHL w' p)) := fun w' hr => by
            have h := iHeavyLayers_any B cb L (1 + r4) w' hr (by omega) (fun e he => by have := hXl.out e he; omega) hw64 (w64_small (by omega))
            rw [hl8, hP.out, ← hp] at h
            exact h
          obtain ⟨pl, pb⟩ := p
          have HF : Hid (pb = true → ∀ key : Nat, key < 4294967296 → 1 + r4 ≤ (ks.count (key : Int) : Int) → pl.count (key : Int) = 1) := fun hb key hk hc => by
            subst hb
            exact heavy_found (by omega) hGa.out (heavy_yes hp.symm) hk hkb.out (by omega) hc
          obtain ⟨d, hd⟩ : ∃ d, d = ascOf ks := ⟨_, rfl⟩
          have hasc := ascOf_spec ks
          rw [← hd] at hasc
          have ASC := hid hasc.1
          have DM := hid hasc.2
          have CX : Hid (∀ w', RdL (Value.int .i64) w' Ak ks → Calls Try.prog 12 #[.slice Ak ks.length ck] w' (RetLL w' (d, cnts d ks, true))) := fun w' hr => by
            have h := iExactCounts_any Ak ck ks w' hr (by omega) (fun z hz => w64_small (by have := hkb.out z hz; omega))
            rw [show pExactCounts ks = (d, cnts d ks, true) by rw [pExactCounts, if_pos (keysQ_mk (by omega) hkb.out), ← hd]] at h
            exact h
          clear hp hw64 hl8 hasc hd CA h40 h41
          go_wp2_with fail
          refine (CS.out _ hR.out).mono ?_
          rintro e W4 ⟨A4, c4, rfl, ho4, hl4, hb4⟩
          simp only at ho4 hl4
          have O4 := hid ho4
          have R4 := hid (hR.out.below hb4)
          have OK4 := hid (OK3.out.below hb4)
          have S4 := hid (S3.out.trans (hb4.mono S3.out.size))
          clear ho4 hb4 OK3 S3 hR CS
          go_wp2_with fail
          refine (CI.out _ R4.out).mono ?_
          rintro e W5 ⟨A5, c5, rfl, ho5, hl5, hb5⟩
          simp only at ho5 hl5
          have O5 := hid ho5
          have O4' := hid (O4.out.below hb5)
          have OK5 := hid (OK4.out.below hb5)
          have S5 := hid (S4.out.trans (hb5.mono S4.out.size))
          clear ho5 hb5 OK4 S4 CI O4
          go_wp2_with fail
          refine (CX.out _ OK5.out.rd).mono ?_
          rintro e W6 ⟨E0, d0, E1, d1, he6, ho6, hl6, ho6', hl6', _, hb6⟩
          simp only at ho6 hl6 ho6' hl6' he6
          rw [cnts_length] at he6 hl6'
          subst he6
          have RE := hid ho6.rd
          have RC := hid ho6'.rd
          have RH := hid (O5.out.below hb6).rd
          have RW := hid (O4'.out.below hb6).rd
          have RK := hid (OK5.out.below hb6).rd
          have S6 := hid (S5.out.trans (hb6.mono S5.out.size))
          clear ho6 ho6' hb6 O5 O4' OK5 S5 CX
          cases pb with
          | true =>
            go_wp2_with fail
            refine (b10Ints_yes _ _ _ _ pl _ RH.out RW.out hl5).mono ?_
            rintro e w7 ⟨rfl, n7, hw7⟩
            have W7 : Hid (Below W6.heap.size W6 w7) := by rw [hw7]; exact below_drewN (Below.refl _ _) _
            clear hw7
            go_wp2
            go_loopw [20, 131] (fun z t wr => ∃ i m : Nat, i ≤ d.length ∧ t = .int .i64 i ∧ z = .int .i64 m ∧ m ≤ 1000 * i ∧ Hid (((cnts d ks).take i).sum = (m : Int)) ∧ Hid (Below W6.heap.size W6 wr)) (fun _ t _ => d.length - (intOf t).toNat)
            case atStart => exact ⟨0, 0, Nat.zero_le _, rfl, rfl, Nat.le_refl _, by show _ = _; simp, W7⟩
            case round =>
              obtain ⟨i, m, hi, rfl, rfl, hmi, hsum, hW⟩ := hrel
              by_cases hlt : i < d.length
              · have hil : (i : Int) < (d.length : Int) := by omega
                have hi0 : (0 : Int) ≤ (i : Int) := by omega
                obtain ⟨be, oe, v, rfl, hce, hdv⟩ := (RE.out.below hW.out).at_ hlt
                obtain ⟨bc, oc, cv, rfl, hcc, hcv⟩ := (RC.out.below hW.out).at_ (k := i) (by rw [cnts_length]; exact hlt)
                obtain ⟨cn, hcn⟩ : ∃ cn, cn = ks.count v := ⟨_, rfl⟩
                obtain rfl : cv = (cn : Int) := by
                  have h1 := hcv.out
                  simp only [cnts, List.getElem?_map, hdv.out, Option.map_some] at h1
                  injection h1 with h1
                  rw [← h1, hcn]
                have hcl : cn ≤ 1000 := by rw [hcn]; exact Nat.le_trans List.count_le_length (by omega)
                have hvk := hkb.out v ((DM.out v).1 (List.mem_of_getElem? hdv.out))
                obtain ⟨vn, rfl⟩ := Int.eq_ofNat_of_zero_le hvk.1
                have CH : Hid (∀ n, Calls Try.prog 14 #[.slice Ak ks.length ck, .int .i64 vn] (wr.drewN n) fun e w' => e = .returned (.int .i64 cn) ∧ w' = wr.drewN n) := fun n => by
                  have h := b10How_any Ak ck ks (vn : Int) (wr.drewN n) ((RK.out.below hW.out).drewN n) (by omega)
                  rw [← hcn] at h
                  exact h.mono fun _ _ ⟨h, h'⟩ => ⟨h, h'.symm⟩
                have hsn : Hid (((cnts d ks).take (i + 1)).sum = ((m + cn : Nat) : Int)) := by
                  show _ = _
                  rw [List.take_add_one, hcv.out, Option.toList_some, List.sum_append, hsum.out]
                  simp
                have q5 : IntKind.i64.wrap ((m : Int) + (cn : Int)) = (m : Int) + (cn : Int) := by rw [IntKind.wrap_i64]; omega
                have CV : Hid (1 + r4 ≤ (cn : Int) → ∀ w', RdL (Value.int .i64) w' A5 pl → Calls Try.prog 14 #[.slice A5 pl.length c5, .int .i64 vn] w' fun e w'' => e = .returned (.int .i64 1) ∧ w' = w'') := fun hc w' hr => by
                  have h := b10How_any A5 c5 pl (vn : Int) w' hr hl5
                  rw [HF.out (by simp) vn (by omega) (by rw [← hcn]; exact hc)] at h
                  exact h
                clear hcn hcv hsum
                rcases Nat.eq_zero_or_pos i with hz | hz
                · have hgd : decide (0 < i) = false := decide_eq_false (by omega)
                  have hgn : ¬ 0 < i := by omega
                  clear hz
                  go_wp2
                  go_quiet ((go_at_call 14; exact Calls.quiet_of_same (CH.out _)))
                  by_cases hge : 1 + r4 ≤ (cn : Int)
                  · have hged : decide (1 + r4 ≤ (cn : Int)) = true := decide_eq_true hge
                    have RH2 := hid (RH.out.below hW.out)
                    have W2 := hW
                    go_wp2_with (go_at_call 14; refine (CV.out hge _ (RH2.out.drewN _)).mono ?_; rintro e w' ⟨rfl, rfl⟩)
                    exact ⟨⟨i + 1, m + cn, by omega, by go_num, by go_num, by omega, hsn, below_drewN W2.out _⟩, by simp [intOf]; omega⟩
                  · have hged : decide (1 + r4 ≤ (cn : Int)) = false := decide_eq_false hge
                    go_wp2
                    exact ⟨⟨i + 1, m + cn, by omega, by go_num, by go_num, by omega, hsn, below_drewN hW.out _⟩, by simp [intOf]; omega⟩
                · obtain ⟨be', oe', u, hE, hcu, hdu⟩ := (RE.out.below hW.out).at_ (k := i - 1) (by omega)
                  injection hE with hE; injection hE with hE1 hE2
                  subst hE1 hE2
                  have hlt2 := asc_next ASC.out hdu.out (by rw [show i - 1 + 1 = i by omega]; exact hdv.out)
                  have hgd : decide (0 < i) = true := decide_eq_true (by omega)
                  have hgn : 0 < i := by omega
                  have e3 : ((i : Int) - 1).toNat = i - 1 := by omega
                  have e4 : (i : Int) - 1 < (d.length : Int) := by omega
                  have e5 : (0 : Int) ≤ (i : Int) - 1 := by omega
                  have e6 : IntKind.i64.wrap ((i : Int) - 1) = (i : Int) - 1 := by rw [IntKind.wrap_i64]; omega
                  have hle : decide ((vn : Int) ≤ u) = false := decide_eq_false (by omega)
                  have hle' : ¬ (vn : Int) ≤ u := by omega
                  clear hz hlt2 hdu
                  go_wp2
                  go_quiet ((go_at_call 14; exact Calls.quiet_of_same (CH.out _)))
                  by_cases hge : 1 + r4 ≤ (cn : Int)
                  · have hged : decide (1 + r4 ≤ (cn : Int)) = true := decide_eq_true hge
                    have RH2 := hid (RH.out.below hW.out)
                    have W2 := hW
                    go_wp2_with (go_at_call 14; refine (CV.out hge _ (RH2.out.drewN _)).mono ?_; rintro e w' ⟨rfl, rfl⟩)
                    exact ⟨⟨i + 1, m + cn, by omega, by go_num, by go_num, by omega, hsn, below_drewN W2.out _⟩, by simp [intOf]; omega⟩
                  · have hged : decide (1 + r4 ≤ (cn : Int)) = false := decide_eq_false hge
                    go_wp2
                    exact ⟨⟨i + 1, m + cn, by omega, by go_num, by go_num, by omega, hsn, below_drewN hW.out _⟩, by simp [intOf]; omega⟩
              · have hil : ¬ (i : Int) < (d.length : Int) := by omega
                obtain rfl : i = d.length := by omega
                have hall := sum_counts d (asc_nodup ASC.out) ks (fun z hz => (DM.out z).2 hz)
                have hs2 := hsum.out
                rw [List.take_of_length_le (by rw [cnts_length]; exact Nat.le_refl _), hall] at hs2
                obtain rfl : m = ks.length := by omega
                have Z := hid (S6.out.trans (hW.out.mono S6.out.size))
                clear hall hs2 hsum hW
                go_wp2
                go_ret
                exact ⟨ret_bool (by simp), Z.out⟩
          | false =>
            go_wp2
            go_loopw [20, 131] (fun z t wr => ∃ i m : Nat, i ≤ d.length ∧ t = .int .i64 i ∧ z = .int .i64 m ∧ m ≤ 1000 * i ∧ Hid (((cnts d ks).take i).sum = (m : Int)) ∧ Hid (Below W6.heap.size W6 wr)) (fun _ t _ => d.length - (intOf t).toNat)
            case atStart => exact ⟨0, 0, Nat.zero_le _, rfl, rfl, Nat.le_refl _, by show _ = _; simp, Below.refl _ _⟩
            case round =>
              obtain ⟨i, m, hi, rfl, rfl, hmi, hsum, hW⟩ := hrel
              by_cases hlt : i < d.length
              · have hil : (i : Int) < (d.length : Int) := by omega
                have hi0 : (0 : Int) ≤ (i : Int) := by omega
                obtain ⟨be, oe, v, rfl, hce, hdv⟩ := (RE.out.below hW.out).at_ hlt
                obtain ⟨bc, oc, cv, rfl, hcc, hcv⟩ := (RC.out.below hW.out).at_ (k := i) (by rw [cnts_length]; exact hlt)
                obtain ⟨cn, hcn⟩ : ∃ cn, cn = ks.count v := ⟨_, rfl⟩
                obtain rfl : cv = (cn : Int) := by
                  have h1 := hcv.out
                  simp only [cnts, List.getElem?_map, hdv.out, Option.map_some] at h1
                  injection h1 with h1
                  rw [← h1, hcn]
                have hcl : cn ≤ 1000 := by rw [hcn]; exact Nat.le_trans List.count_le_length (by omega)
                have hvk := hkb.out v ((DM.out v).1 (List.mem_of_getElem? hdv.out))
                obtain ⟨vn, rfl⟩ := Int.eq_ofNat_of_zero_le hvk.1
                have CH : Hid (∀ n, Calls Try.prog 14 #[.slice Ak ks.length ck, .int .i64 vn] (wr.drewN n) fun e w' => e = .returned (.int .i64 cn) ∧ w' = wr.drewN n) := fun n => by
                  have h := b10How_any Ak ck ks (vn : Int) (wr.drewN n) ((RK.out.below hW.out).drewN n) (by omega)
                  rw [← hcn] at h
                  exact h.mono fun _ _ ⟨h, h'⟩ => ⟨h, h'.symm⟩
                have hsn : Hid (((cnts d ks).take (i + 1)).sum = ((m + cn : Nat) : Int)) := by
                  show _ = _
                  rw [List.take_add_one, hcv.out, Option.toList_some, List.sum_append, hsum.out]
                  simp
                have q5 : IntKind.i64.wrap ((m : Int) + (cn : Int)) = (m : Int) + (cn : Int) := by rw [IntKind.wrap_i64]; omega
                clear hcn hcv hsum
                rcases Nat.eq_zero_or_pos i with hz | hz
                · have hgd : decide (0 < i) = false := decide_eq_false (by omega)
                  have hgn : ¬ 0 < i := by omega
                  clear hz
                  go_wp2
                  go_quiet ((go_at_call 14; exact Calls.quiet_of_same (CH.out _)))
                  go_wp2
                  exact ⟨⟨i + 1, m + cn, by omega, by go_num, by go_num, by omega, hsn, below_drewN hW.out _⟩, by simp [intOf]; omega⟩
                · obtain ⟨be', oe', u, hE, hcu, hdu⟩ := (RE.out.below hW.out).at_ (k := i - 1) (by omega)
                  injection hE with hE; injection hE with hE1 hE2
                  subst hE1 hE2
                  have hlt2 := asc_next ASC.out hdu.out (by rw [show i - 1 + 1 = i by omega]; exact hdv.out)
                  have hgd : decide (0 < i) = true := decide_eq_true (by omega)
                  have hgn : 0 < i := by omega
                  have e3 : ((i : Int) - 1).toNat = i - 1 := by omega
                  have e4 : (i : Int) - 1 < (d.length : Int) := by omega
                  have e5 : (0 : Int) ≤ (i : Int) - 1 := by omega
                  have e6 : IntKind.i64.wrap ((i : Int) - 1) = (i : Int) - 1 := by rw [IntKind.wrap_i64]; omega
                  have hle : decide ((vn : Int) ≤ u) = false := decide_eq_false (by omega)
                  have hle' : ¬ (vn : Int) ≤ u := by omega
                  clear hz hlt2 hdu
                  go_wp2
                  go_quiet ((go_at_call 14; exact Calls.quiet_of_same (CH.out _)))
                  go_wp2
                  exact ⟨⟨i + 1, m + cn, by omega, by go_num, by go_num, by omega, hsn, below_drewN hW.out _⟩, by simp [intOf]; omega⟩
              · have hil : ¬ (i : Int) < (d.length : Int) := by omega
                obtain rfl : i = d.length := by omega
                have hall := sum_counts d (asc_nodup ASC.out) ks (fun z hz => (DM.out z).2 hz)
                have hs2 := hsum.out
                rw [List.take_of_length_le (by rw [cnts_length]; exact Nat.le_refl _), hall] at hs2
                obtain rfl : m = ks.length := by omega
                have Z := hid (S6.out.trans (hW.out.mono S6.out.size))
                clear hall hs2 hsum hW
                go_wp2
                go_ret
                exact ⟨ret_bool (by simp), Z.out⟩
end Go.Proofs.Ytmafkkpdcajfoaa
