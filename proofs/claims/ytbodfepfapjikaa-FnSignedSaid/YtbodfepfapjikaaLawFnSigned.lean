/-
  FnSigned: the walk of the law.
-/
import Derived.Test.YtbodfepfapjikaaSignedW
import Derived.Deep.CutRange
namespace Go.Proofs.Ytbodfepfapjikaa
open Go.RowKit
set_option linter.unusedVariables false
set_option linter.unusedSimpArgs false

/-- A box that holds cells, and what the cells hold. -/
def Bx (w : World) (q wd dp s n : Nat) (A : Option Addr) (c : Nat) (X : List Int) : Prop := Blk w q 48 [.int .i64 wd, .int .i64 dp, .int .i64 s, .slice A n c] ∧ RdL (Value.int .i64) w A X
theorem Bx.below {w w' : World} {q wd dp s n : Nat} {A : Option Addr} {c : Nat} {X : List Int} (h : Bx w q wd dp s n A c X) (hb : Below w.heap.size w w') : Bx w' q wd dp s n A c X := ⟨h.1.below hb, h.2.below hb⟩
theorem Bx.new {w w' : World} {wd dp s n : Nat} {A : Option Addr} {c : Nat} {X : List Int} (hr : RdL (Value.int .i64) w A X) (hw : w' = w.alloc (.cells #[.int .i64 wd, .int .i64 dp, .int .i64 s, .slice A n c] 48)) : Bx w' w.heap.size wd dp s n A c X ∧ Below w.heap.size w w' := by
  subst hw
  exact ⟨⟨Blk.new _ _ _, hr.below (below_a1 _ _)⟩, below_a1 _ _⟩
theorem rd_lt {f : Int → Value} {w : World} {A : Option Addr} {X : List Int} (h : RdL f w A X) {g o : Nat} (hg : A = some ⟨g, o, none⟩) (hX : X ≠ []) : g < w.heap.size := by
  obtain ⟨b, o', hb, hc⟩ := h 0 (List.length_pos_iff.2 hX)
  rw [hg] at hb
  injection hb with hb
  injection hb with e1 e2
  subst e1; subst e2
  have := World.block_lt_of_cell? w _ hc
  simpa using this
theorem rd_set {f : Int → Value} {w : World} {A : Option Addr} {X : List Int} (h : RdL f w A X) {p : Addr} {v : Value} (hA : ∀ g o, A = some ⟨g, o, none⟩ → X ≠ [] → g ≠ p.block) : RdL f (w.setCell p v) A X := fun j hj => by
  obtain ⟨b, o, hb, hc⟩ := h j hj
  refine ⟨b, o, hb, ?_⟩
  have e := Below.heap_setCell w p v b (hA b o hb (by rintro rfl; simp at hj))
  rw [← hc]
  simp only [World.cell?, e]
/-- Four cells of a box, stored one after the other. -/
def st4 (w : World) (q : Nat) (v0 v1 v2 v3 : Value) : World := (((w.setCell ⟨q, 0, none⟩ v0).setCell ⟨q, 1, none⟩ v1).setCell ⟨q, 2, none⟩ v2).setCell ⟨q, 3, none⟩ v3
theorem st4_blk {w : World} {q : Nat} {t : TypeId} {u0 u1 u2 u3 v0 v1 v2 v3 : Value} (h : Blk w q t [u0, u1, u2, u3]) : Blk (st4 w q v0 v1 v2 v3) q t [v0, v1, v2, v3] := (((h.set_ 0 v0).set_ 1 v1).set_ 2 v2).set_ 3 v3
theorem st4_far {w : World} {q g : Nat} {t : TypeId} {cs : List Value} {v0 v1 v2 v3 : Value} (h : Blk w g t cs) (hg : g ≠ q) : Blk (st4 w q v0 v1 v2 v3) g t cs := (((h.far hg v0).far hg v1).far hg v2).far hg v3
theorem st4_rd {f : Int → Value} {w : World} {q : Nat} {A : Option Addr} {X : List Int} {v0 v1 v2 v3 : Value} (h : RdL f w A X) (hA : ∀ g o, A = some ⟨g, o, none⟩ → X ≠ [] → g ≠ q) : RdL f (st4 w q v0 v1 v2 v3) A X := rd_set (rd_set (rd_set (rd_set h hA) hA) hA) hA
theorem st4_below {B : Nat} {a w : World} {q : Nat} {v0 v1 v2 v3 : Value} (h : Below B a w) (hq : B ≤ q) : Below B a (st4 w q v0 v1 v2 v3) := (((h.setCell hq v0).setCell hq v1).setCell hq v2).setCell hq v3
theorem own_far {w : World} {B q : Nat} {t : TypeId} {A : Option Addr} {X : List Int} (h : OwnS (Value.int .i64) w B t A X) (hq : q + 1 < B) : ∀ g o, A = some ⟨g, o, none⟩ → X ≠ [] → g ≠ q ∧ g ≠ q + 1 := by
  intro g o h1 h2
  obtain ⟨g', ex, h3, hB, _⟩ := h h2
  rw [h1] at h3
  injection h3 with h3
  injection h3 with h3 _
  omega
/-- What the law's loop holds ahead of key j. -/
structure LP (w wr : World) (wd dp s n qa qc : Nat) (Aa : Option Addr) (ca : Nat) (a : List Int) (Ak : Option Addr) (K : List Int) (j : Nat) (Ac : Option Addr) (cc : Nat) (C : List Int) (Ad : Option Addr) (cd : Nat) (D : List Int) : Prop where
  bc : Blk wr qc 48 [.int .i64 wd, .int .i64 dp, .int .i64 s, .slice Ac n cc]
  bd : Blk wr (qc + 1) 48 [.int .i64 wd, .int .i64 dp, .int .i64 s, .slice Ad n cd]
  rc : RdL (Value.int .i64) wr Ac C
  rd : RdL (Value.int .i64) wr Ad D
  fc : ∀ g o, Ac = some ⟨g, o, none⟩ → C ≠ [] → g ≠ qc ∧ g ≠ qc + 1
  fd : ∀ g o, Ad = some ⟨g, o, none⟩ → D ≠ [] → g ≠ qc ∧ g ≠ qc + 1
  ba : Bx wr qa wd dp s n Aa ca a
  fa : ∀ g o, Aa = some ⟨g, o, none⟩ → a ≠ [] → g ≠ qc ∧ g ≠ qc + 1
  rk : RdL (Value.int .i64) wr Ak K
  fk : ∀ g o, Ak = some ⟨g, o, none⟩ → K ≠ [] → g ≠ qc ∧ g ≠ qc + 1
  bel : Below w.heap.size w wr
  lc : C.length = n
  ld : D.length = n
  zip : List.zipWith (fun a b => a + b) a C = D
  sc : Sm C (600 * ((j : Int) + 1))
  sd : Sm D (600 * ((j : Int) + 1))
set_option maxRecDepth 100000 in
set_option maxHeartbeats 6400000 in
theorem FnSigned_any (A : Option Addr) (c : Nat) (x : List Int) (A' : Option Addr) (c' : Nat) (y : List Int) (w : World) (hx : RdL (Value.int .u8) w A x) (hm : x.length ≤ 9223372036854775807) (hbx : Byt x) (hy : RdL (Value.int .u8) w A' y) (hm' : y.length ≤ 9223372036854775807) (hby : Byt y) :
    Calls Try.prog 12 #[.slice A x.length c, .slice A' y.length c'] w fun e w' => e = .returned (.bool true) ∧ Below w.heap.size w w' := by
  have HX := hid hx
  have HY := hid hy
  have BX := hid hbx
  have BY := hid hby
  clear hx hy hbx hby
  by_cases hlong : 1048576 < x.length ∨ 1048576 < y.length
  · have hd : decide (1048576 < x.length ∨ 1048576 < y.length) = true := decide_eq_true hlong
    have C0 : Hid (∀ w, Calls Try.prog 51 #[.slice A x.length c, .slice A' y.length c'] w fun e w' => e = .returned (.bool true) ∧ w = w') := fun w => hd ▸ b10Long_any A A' x.length y.length c c' w
    clear hd hlong
    go_enter Try.func12, Try.ntmps12
    go_wp2_with (go_at_call 51; refine (C0.out _).mono ?_; rintro e w' ⟨rfl, rfl⟩)
    go_ret
    exact ⟨rfl, Below.refl _ _⟩
  have hd : decide (1048576 < x.length ∨ 1048576 < y.length) = false := decide_eq_false hlong
  have C0 : Hid (∀ w, Calls Try.prog 51 #[.slice A x.length c, .slice A' y.length c'] w fun e w' => e = .returned (.bool false) ∧ w = w') := fun w => hd ▸ b10Long_any A A' x.length y.length c c' w
  have hn : x.length ≤ 1048576 := by omega
  have hn' : y.length ≤ 1048576 := by omega
  have CA : Hid (∀ (i n : Int) w', RdL (Value.int .u8) w' A' y → 0 ≤ i → i ≤ 1000 → 1 < n → n ≤ 256 → Calls Try.prog 53 #[.slice A' y.length c', .int .i64 i, .int .i64 n] w' fun e w'' => (∃ r, e = .returned (.int .i64 r) ∧ 0 ≤ r ∧ r < n) ∧ w' = w'') := fun i n w' h1 h2 h3 h4 h5 => b10At_any A' c' y i n w' h1 BY.out hn' h2 h3 h4 h5
  clear hd hlong
  go_enter Try.func12, Try.ntmps12
  go_wp2_with (go_at_call 51; refine (C0.out _).mono ?_; rintro e w' ⟨rfl, rfl⟩)
  refine (CA.out 0 12 w HY.out (by decide) (by decide) (by decide) (by decide)).mono ?_
  rintro e w' ⟨⟨r0, rfl, h00, h01⟩, rfl⟩
  go_wp2_with fail
  refine (CA.out 1 5 w HY.out (by decide) (by decide) (by decide) (by decide)).mono ?_
  rintro e w' ⟨⟨r1, rfl, h10, h11⟩, rfl⟩
  go_wp2_with fail
  refine (CA.out 2 256 w HY.out (by decide) (by decide) (by decide) (by decide)).mono ?_
  rintro e w' ⟨⟨r2, rfl, h20, h21⟩, rfl⟩
  go_wp2_with fail
  obtain ⟨wd, hwd⟩ : ∃ wd : Nat, 2 + r0 = (wd : Int) := Int.eq_ofNat_of_zero_le (by omega)
  obtain ⟨dp, hdp⟩ : ∃ dp : Nat, 1 + r1 = (dp : Int) := Int.eq_ofNat_of_zero_le (by omega)
  obtain ⟨s, hs⟩ : ∃ s : Nat, 50 * r2 = (s : Int) := Int.eq_ofNat_of_zero_le (by omega)
  have hSd : Hid (Sd wd dp s) := by show Sd wd dp s; unfold Sd; omega
  rw [hwd, hdp, hs]
  clear h00 h01 h10 h11 h20 h21 hwd hdp hs C0
  obtain ⟨n, hn0⟩ : ∃ n, n = wd * dp := ⟨_, rfl⟩
  have hn1 : 0 < n ∧ n ≤ 65 := by rw [hn0]; exact hSd.out.n
  have HN := hid hn0
  refine (newS hSd.out _).mono ?_
  rw [← hn0]
  clear hn0
  rintro e W1 ⟨AE, cE, rfl, hoE, hbE, hce1, hce2⟩
  have RE := hid hoE.rd
  have S1 := hid hbE
  clear hoE hbE
  go_wp2_with fail
  obtain ⟨E, hE⟩ : ∃ E, E = List.replicate n (0 : Int) := ⟨_, rfl⟩
  rw [← hE] at RE
  have hEl : E.length = n := by rw [hE]; simp
  have HE := hid hE
  clear hE
  obtain ⟨W2, hW2⟩ : ∃ W2, W2 = W1.alloc (.cells #[.int .i64 wd, .int .i64 dp, .int .i64 s, .slice AE n cE] 48) := ⟨_, rfl⟩
  rw [← hW2]
  obtain ⟨qE, hqE⟩ : ∃ qE, qE = W1.heap.size := ⟨_, rfl⟩
  rw [← hqE]
  obtain ⟨bE, sE⟩ := Bx.new RE.out hW2
  rw [← hqE] at bE
  have BE := hid bE
  have S2 := hid (S1.out.trans (sE.mono S1.out.size))
  have hqE1 : w.heap.size ≤ qE := by rw [hqE]; exact S1.out.size
  clear bE sE hW2 hqE S1 RE
  refine (CA.out 3 256 W2 (HY.out.below S2.out) (by decide) (by decide) (by decide) (by decide)).mono ?_
  rintro e w' ⟨⟨r3, rfl, h30, h31⟩, rfl⟩
  obtain ⟨key, rfl⟩ := Int.eq_ofNat_of_zero_le h30
  go_wp2_with fail
  refine (CA.out 4 200 W2 (HY.out.below S2.out) (by decide) (by decide) (by decide) (by decide)).mono ?_
  rintro e w' ⟨⟨r4, rfl, h40, h41⟩, rfl⟩
  obtain ⟨c0, c1, c2, c3⟩ := BE.out.1.cells4
  go_wp2_with fail
  obtain ⟨b, hb⟩ : ∃ b, b = r4 - 100 := ⟨_, rfl⟩
  have hb1 : -100 ≤ b ∧ b ≤ 100 := by omega
  rw [← hb]
  clear hb h40 h41 c0 c1 c2 c3
  have hk : key ≤ 255 := by omega
  clear h30 h31
  have CP : Hid (∀ (A : Option Addr) (c : Nat) (X : List Int) (M : Int) (w : World) (k : Nat) (v : Int), RdL (Value.int .i64) w A X → X.length = n → 0 ≤ M → M ≤ 100000 → Sm X M → k ≤ 255 → -100 ≤ v ∧ v ≤ 100 → Calls Try.prog 54 #[.agg #[.int .i64 wd, .int .i64 dp, .int .i64 s, .slice A n c], .int .i64 k, .int .i64 v] w (RetS wd dp s n 9223372036854775807 (putC wd dp s X k v) w)) := by
    have h := HN.out
    subst h
    exact fun A c X M w k v h1 h2 h3 h4 h5 h6 h7 => putS hSd.out w h1 h2 h3 h4 h5 k h6 v h7
  have SE : Hid (Sm E 0) := by rw [HE.out]; exact hid (sm_zeros n)
  have C1 : Hid (∀ w, RdL (Value.int .i64) w AE E → Calls Try.prog 54 #[.agg #[.int .i64 wd, .int .i64 dp, .int .i64 s, .slice AE n cE], .int .i64 key, .int .i64 b] w (RetS wd dp s n 9223372036854775807 (putC wd dp s E key b) w)) := fun w h => CP.out AE cE E 0 w key b h hEl (by omega) (by omega) SE.out hk hb1
  obtain ⟨a, ha⟩ : ∃ a, a = putC wd dp s E key b := ⟨_, rfl⟩
  have hal : a.length = n := by rw [ha, putC_length]; exact hEl
  have SA : Hid (Sm a 600) := by rw [ha]; exact hid (sm_put (M := 0) hSd.out (by omega) hb1 SE.out)
  have hone : a = oneC wd dp s key b := by rw [ha, HE.out, HN.out]; rfl
  have HONE := hid hone
  rw [← ha] at C1
  have HA := hid ha
  clear ha hone
  refine (C1.out _ BE.out.2).mono ?_
  rintro e W3 ⟨Aa, ca, rfl, hoa, hba, hca1, hca2⟩
  have RA := hid hoa.rd
  have S3 := hid (S2.out.trans (hba.mono S2.out.size))
  have BE3 := hid (BE.out.below hba)
  clear hoa hba C1 BE
  have BE := BE3
  clear BE3
  have C1 : Hid (∀ w, RdL (Value.int .i64) w Aa a → Calls Try.prog 35 #[.agg #[.int .i64 wd, .int .i64 dp, .int .i64 s, .slice Aa n ca], .int .i64 key] w fun e w' => e = .returned (.tuple #[.int .i64 b, .bool true]) ∧ Below w.heap.size w w') := by
    have h := HN.out
    subst h
    rw [HONE.out]
    exact fun w hr => toldS hSd.out key hk b hb1 w hr
  have C2 : Hid (∀ w, RdL (Value.int .i64) w Aa a → Calls Try.prog 32 #[.agg #[.int .i64 wd, .int .i64 dp, .int .i64 s, .slice Aa n ca]] w fun e w' => e = .returned (.tuple #[.int .i64 (b * b), .bool true]) ∧ Below w.heap.size w w') := by
    have h := HN.out
    subst h
    rw [HONE.out]
    exact fun w hr => normS hSd.out hca1 hca2 key b hb1 w hr
  have C3 : Hid (∀ w, RdL (Value.int .i64) w AE E → Calls Try.prog 37 #[.agg #[.int .i64 wd, .int .i64 dp, .int .i64 s, .slice AE n cE], .int .i64 key] w fun e w' => e = .returned (.tuple #[.float .f32 0, .bool true]) ∧ Below w.heap.size w w') := by
    have h := HN.out
    have h2 := HE.out
    subst h
    rw [h2]
    exact fun w hr => corS hSd.out hce1 hce2 key hk w hr
  have C4 : Hid (∀ w, RdL (Value.int .i64) w Aa a → Calls Try.prog 54 #[.agg #[.int .i64 wd, .int .i64 dp, .int .i64 s, .slice Aa n ca], .int .i64 key, .int .i64 (-b)] w (RetS wd dp s n 9223372036854775807 E w)) := fun w h => by
    have h2 := CP.out Aa ca a 600 w key (-b) h hal (by omega) (by omega) SA.out hk (by omega)
    rw [HA.out, putC_back] at h2
    exact h2
  clear hca1 hca2 hce1 hce2
  go_wp2_with fail
  obtain ⟨W4, hW4⟩ : ∃ W4, W4 = W3.alloc (.cells #[.int .i64 wd, .int .i64 dp, .int .i64 s, .slice Aa n ca] 48) := ⟨_, rfl⟩
  rw [← hW4]
  obtain ⟨qa, hqa⟩ : ∃ qa, qa = W3.heap.size := ⟨_, rfl⟩
  rw [← hqa]
  obtain ⟨ba, sa⟩ := Bx.new RA.out hW4
  rw [← hqa] at ba
  have BA := hid ba
  have BE3 := hid (BE.out.below sa)
  have S4 := hid (S3.out.trans (sa.mono S3.out.size))
  have hqa1 : w.heap.size ≤ qa := by rw [hqa]; exact S3.out.size
  have hqEa : qE < qa := by rw [hqa]; exact BE.out.1.lt
  clear ba sa hW4 hqa S3 RA BE S2
  have BE := BE3
  clear BE3
  -- told
  refine (C1.out _ BA.out.2).mono ?_
  rintro e W5 ⟨rfl, hb5⟩
  have BE3 := hid (BE.out.below hb5)
  have BA3 := hid (BA.out.below hb5)
  have S5 := hid (S4.out.trans (hb5.mono S4.out.size))
  clear hb5 C1 BE BA S4
  have BE := BE3
  have BA := BA3
  clear BE3 BA3
  obtain ⟨c0, c1, c2, c3⟩ := BA.out.1.cells4
  go_wp2_with fail
  refine (C2.out _ BA.out.2).mono ?_
  rintro e W6 ⟨rfl, hb6⟩
  have BE3 := hid (BE.out.below hb6)
  have BA3 := hid (BA.out.below hb6)
  have S6 := hid (S5.out.trans (hb6.mono S5.out.size))
  clear hb6 C2 BE BA S5 c0 c1 c2 c3
  have BE := BE3
  have BA := BA3
  clear BE3 BA3
  obtain ⟨c0, c1, c2, c3⟩ := BA.out.1.cells4
  go_wp2_with fail
  refine (C4.out _ BA.out.2).mono ?_
  rintro e W7 ⟨Ab, cb, rfl, hob, hbb, _, _⟩
  have RB := hid hob.rd
  have BE3 := hid (BE.out.below hbb)
  have BA3 := hid (BA.out.below hbb)
  have S7 := hid (S6.out.trans (hbb.mono S6.out.size))
  clear hob hbb C4 BE BA S6 c0 c1 c2 c3
  have BE := BE3
  have BA := BA3
  clear BE3 BA3
  go_upto_region 10 with (fail)
  obtain ⟨W8, hW8⟩ : ∃ W8, W8 = W7.alloc (.cells #[.int .i64 wd, .int .i64 dp, .int .i64 s, .slice Ab n cb] 48) := ⟨_, rfl⟩
  rw [← hW8]
  obtain ⟨qb, hqb⟩ : ∃ qb, qb = W7.heap.size := ⟨_, rfl⟩
  rw [← hqb]
  obtain ⟨bb, sb⟩ := Bx.new RB.out hW8
  rw [← hqb] at bb
  have BB := hid bb
  have BE3 := hid (BE.out.below sb)
  have BA3 := hid (BA.out.below sb)
  have S8 := hid (S7.out.trans (sb.mono S7.out.size))
  clear bb sb hW8 hqb S7 RB BE BA
  have BE := BE3
  have BA := BA3
  clear BE3 BA3
  have hbm : IntKind.i64.wrap (b * b) = b * b := by
    have := mul_small (a := b) (b := b) ⟨by omega, by omega⟩ ⟨by omega, by omega⟩
    rw [IntKind.wrap_i64]; omega
  have CS : Hid (∀ (A B : Option Addr) (c c' : Nat) (X : List Int) (w : World), X.length = n → Sm X 100000 → RdL (Value.int .i64) w A X → RdL (Value.int .i64) w B X → Calls Try.prog 55 #[.agg #[.int .i64 wd, .int .i64 dp, .int .i64 s, .slice A n c], .agg #[.int .i64 wd, .int .i64 dp, .int .i64 s, .slice B n c']] w fun e w' => e = .returned (.bool true) ∧ Below w.heap.size w w') := by
    have h := HN.out
    subst h
    exact fun A B c c' X w h1 h2 h3 h4 => sameS hSd.out (M := 100000) (by omega) h2 h1 w h3 h4
  have CI : Hid (∀ (A B : Option Addr) (c c' : Nat) (X : List Int) (w : World), X.length = n → RdL (Value.int .i64) w A X → RdL (Value.int .i64) w B X → Calls Try.prog 56 #[.slice A n c, .slice B n c'] w fun e w' => e = .returned (.bool true) ∧ Below w.heap.size w w') := fun A B c c' X w h1 h3 h4 => intsS h1 hn1.2 w h3 h4
  have SE5 : Hid (Sm E 100000) := fun y hy => by have := SE.out y hy; omega
  obtain ⟨c0, c1, c2, c3⟩ := BE.out.1.cells4
  obtain ⟨d0, d1, d2, d3⟩ := BB.out.1.cells4
  go_wp2_with fail
  refine (CS.out Ab AE cb cE E _ hEl SE5.out BB.out.2 BE.out.2).mono ?_
  rintro e W9 ⟨rfl, hb9⟩
  have BE3 := hid (BE.out.below hb9)
  have BA3 := hid (BA.out.below hb9)
  have BB3 := hid (BB.out.below hb9)
  have S9 := hid (S8.out.trans (hb9.mono S8.out.size))
  clear hb9 BE BA BB S8 c0 c1 c2 c3 d0 d1 d2 d3
  have BE := BE3
  have BA := BA3
  have BB := BB3
  clear BE3 BA3 BB3
  obtain ⟨c0, c1, c2, c3⟩ := BE.out.1.cells4
  obtain ⟨d0, d1, d2, d3⟩ := BB.out.1.cells4
  go_wp2_with fail
  refine (CI.out Ab AE cb cE E _ hEl BB.out.2 BE.out.2).mono ?_
  rintro e W10 ⟨rfl, hb9⟩
  have BE3 := hid (BE.out.below hb9)
  have BA3 := hid (BA.out.below hb9)
  have S10 := hid (S9.out.trans (hb9.mono S9.out.size))
  clear hb9 BE BA BB S9 c0 c1 c2 c3 d0 d1 d2 d3
  have BE := BE3
  have BA := BA3
  clear BE3 BA3 hbm
  obtain ⟨c0, c1, c2, c3⟩ := BE.out.1.cells4
  go_wp2_with fail
  refine (C3.out _ BE.out.2).mono ?_
  rintro e W11 ⟨rfl, hb9⟩
  have BE3 := hid (BE.out.below hb9)
  have BA3 := hid (BA.out.below hb9)
  have S11 := hid (S10.out.trans (hb9.mono S10.out.size))
  clear hb9 BE BA S10 c0 c1 c2 c3 C3
  have BE := BE3
  have BA := BA3
  clear BE3 BA3
  go_wp2_with fail
  refine (CA.out 5 12 W11 (HY.out.below S11.out) (by decide) (by decide) (by decide) (by decide)).mono ?_
  rintro e w' ⟨⟨r5, rfl, h50, h51⟩, rfl⟩
  go_wp2_with fail
  refine (b10Keys_any A c x r5 W11 (HX.out.below S11.out) BX.out hn h50 (by omega)).mono ?_
  rintro e W12 ⟨v, K, rfl, hOK, hKl, hKb, hb12⟩
  obtain ⟨Ak, ck, rfl, hos⟩ := hOK.ownS
  have RK := hid hos.rd
  have KB := hid hKb
  have hK11 : K.length ≤ 11 := by omega
  have BE3 := hid (BE.out.below hb12)
  have BA3 := hid (BA.out.below hb12)
  have S12 := hid (S11.out.trans (hb12.mono S11.out.size))
  clear hos hb12 hKb hOK BE BA S11 CA h50 h51 hKl
  have BE := BE3
  have BA := BA3
  clear BE3 BA3
  obtain ⟨c0, c1, c2, c3⟩ := BE.out.1.cells4
  obtain ⟨d0, d1, d2, d3⟩ := BA.out.1.cells4
  have l0 : qE < W12.heap.size := BE.out.1.lt
  have l1 : qa < W12.heap.size := BA.out.1.lt
  go_wp2
  have LT : Hid (∀ (A : Option Addr) (X : List Int), RdL (Value.int .i64) W12 A X → ∀ g o, A = some ⟨g, o, none⟩ → X ≠ [] → g < W12.heap.size) := fun A X h g o hg hX => rd_lt h hg hX
  obtain ⟨WL, hWL⟩ : ∃ WL, WL = (W12.alloc (.cells #[.int .i64 wd, .int .i64 dp, .int .i64 s, .slice AE n cE] 48)).alloc (.cells #[.int .i64 wd, .int .i64 dp, .int .i64 s, .slice Aa n ca] 48) := ⟨_, rfl⟩
  rw [← hWL]
  obtain ⟨qc, hqc⟩ : ∃ qc, qc = W12.heap.size := ⟨_, rfl⟩
  rw [← hqc]
  have L0 : Hid (LP w WL wd dp s n qa qc Aa ca a Ak K 0 AE cE E Aa ca a) := by
    have gx : Below W12.heap.size W12 WL := by rw [hWL]; exact ((Below.refl _ _).alloc (Nat.le_refl _) _).alloc (by simp) _
    refine hid ⟨?_, ?_, BE.out.2.below gx, BA.out.2.below gx, ?_, ?_, BA.out.below gx, ?_, RK.out.below gx, ?_, S12.out.trans (gx.mono S12.out.size), hEl, hal, ?_, ?_, ?_⟩
    · rw [hWL, hqc]; exact (Blk.new _ _ _).alloc _
    · rw [hWL, hqc]; exact Blk.new2 _ _ _ _
    · intro g o h1 h2; have := LT.out _ _ BE.out.2 g o h1 h2; omega
    · intro g o h1 h2; have := LT.out _ _ BA.out.2 g o h1 h2; omega
    · intro g o h1 h2; have := LT.out _ _ BA.out.2 g o h1 h2; omega
    · intro g o h1 h2; have := LT.out _ _ RK.out g o h1 h2; omega
    · rw [HE.out, ← hal]; exact zip_zeros rfl
    · intro y hy; have := SE.out y hy; omega
    · intro y hy; have := SA.out y hy; omega
  have hqca : qa < qc := by omega
  have hqcw : w.heap.size ≤ qc := by omega
  clear c0 c1 c2 c3 d0 d1 d2 d3 l0 l1 hWL hqc LT BE BA RK S12
  go_loopw [134] (fun i wr => ∃ (j : Nat) (Ac Ad : Option Addr) (cc cd : Nat) (C D : List Int), i = .int .i64 j ∧ j ≤ K.length ∧ Hid (LP w wr wd dp s n qa qc Aa ca a Ak K j Ac cc C Ad cd D)) (fun i _ => K.length - (intOf i).toNat)
  case atStart => exact ⟨0, AE, Aa, cE, ca, E, a, rfl, Nat.zero_le _, L0⟩
  case round =>
    obtain ⟨j, Ac, Ad, cc, cd, C, D, rfl, hj, hL⟩ := hrel
    clear L0
    by_cases hlt : j < K.length
    · have hi : (j : Int) < (K.length : Int) := by omega
      obtain ⟨bk, ok, z, rfl, hck, hz⟩ := hL.out.rk.at_ hlt
      obtain ⟨hz0, hz8⟩ := KB.out z (List.mem_of_getElem? hz.out)
      obtain ⟨kz, rfl⟩ := Int.eq_ofNat_of_zero_le hz0
      have hkz : kz ≤ 255 := by omega
      have hbk : bk < wr.heap.size := by have := World.block_lt_of_cell? wr _ hck; simpa using this
      have hbkc : bk ≠ qc ∧ bk ≠ qc + 1 := hL.out.fk bk ok rfl (by rintro rfl; simp at hlt)
      obtain ⟨c0, c1, c2, c3⟩ := hL.out.bc.cells4
      have l0 : qc < wr.heap.size := hL.out.bc.lt
      have l1 : qc + 1 < wr.heap.size := hL.out.bd.lt
      clear hz hz0 hz8
      obtain ⟨C', hC'⟩ : ∃ C', C' = putC wd dp s C kz 1 := ⟨_, rfl⟩
      obtain ⟨D', hD'⟩ : ∃ D', D' = putC wd dp s D kz 1 := ⟨_, rfl⟩
      have CC : Hid (∀ w, RdL (Value.int .i64) w Ac C → Calls Try.prog 54 #[.agg #[.int .i64 wd, .int .i64 dp, .int .i64 s, .slice Ac n cc], .int .i64 kz, .int .i64 1] w (RetS wd dp s n 9223372036854775807 C' w)) := fun w h => by rw [hC']; exact CP.out Ac cc C _ w kz 1 h hL.out.lc (by omega) (by omega) hL.out.sc hkz (by omega)
      have CD : Hid (∀ w, RdL (Value.int .i64) w Ad D → Calls Try.prog 54 #[.agg #[.int .i64 wd, .int .i64 dp, .int .i64 s, .slice Ad n cd], .int .i64 kz, .int .i64 1] w (RetS wd dp s n 9223372036854775807 D' w)) := fun w h => by rw [hD']; exact CP.out Ad cd D _ w kz 1 h hL.out.ld (by omega) (by omega) hL.out.sd hkz (by omega)
      have HC' := hid hC'
      have HD' := hid hD'
      clear hC' hD'
      go_wp2_with fail
      go_cut [23, 24] from 137 to 145 (fun vq vb wx => ∃ (q : Nat) (A1 : Option Addr) (c1 : Nat), vq = .pointer (some ⟨q, 0, none⟩) ∧ vb = .bool true ∧ Hid (Blk wx q 48 [.int .i64 wd, .int .i64 dp, .int .i64 s, .slice A1 n c1]) ∧ Hid (OwnS (Value.int .i64) wx wr.heap.size 2 A1 C') ∧ Hid (wr.heap.size ≤ q) ∧ Hid (Below wr.heap.size wr wx))
      case first =>
        have H0 := hid (Below.refl wr.heap.size wr)
        go_region_held3 (fun w' => w'.cell? ⟨qc, 0, none⟩ = some (.int .i64 wd) ∧ w'.cell? ⟨qc, 1, none⟩ = some (.int .i64 dp) ∧ w'.cell? ⟨qc, 2, none⟩ = some (.int .i64 s) ∧ w'.cell? ⟨qc, 3, none⟩ = some (.slice Ac n cc) ∧ w'.cell? ⟨bk, ok + j, none⟩ = some (.int .i64 kz)) (first | go_keep | exact hS)
          (first
            | (go_at_call 54
               refine (CC.out _ (RdL.below hL.out.rc (by repeat first | with_reducible exact Below.refl _ _ | (refine Hid.out ?_; assumption) | refine below_drewN ?_ _ | refine below_drew1 ?_ | refine below_alloc_ ?_ _))).mono ?_
               rintro e W20 ⟨A1, c1, rfl, ho, hb, _, _⟩
               have H22 : Hid (Below wr.heap.size wr W20) := below_next (by repeat first | with_reducible exact Below.refl _ _ | (refine Hid.out ?_; assumption) | refine below_drewN ?_ _ | refine below_drew1 ?_ | refine below_alloc_ ?_ _) hb
               have hoo := hid (OwnS.mono ho (B' := wr.heap.size) (by first | exact Nat.le_refl _ | exact Nat.le_succ _ | (simp; done)))
               first
                 | (have hQ := hid (Blk.below (Blk.new wr 48 [.int .i64 0, .int .i64 0, .int .i64 0, .slice none 0 0]) (below_drew'' hb)))
                 | (have hQ := hid (Blk.below (Blk.new wr 48 [.int .i64 0, .int .i64 0, .int .i64 0, .slice none 0 0]) (below_drew' hb)))
                 | (have hQ := hid (Blk.below (Blk.new wr 48 [.int .i64 0, .int .i64 0, .int .i64 0, .slice none 0 0]) hb))
                 | skip
               first
                 | (obtain ⟨q0, q1, q2, q3⟩ := hQ.out.cells4
                    have qf0 := hQ.out.frozen 0
                    have qf1 := hQ.out.frozen 1
                    have qf2 := hQ.out.frozen 2
                    have qf3 := hQ.out.frozen 3
                    have hqm0 : qc ≠ wr.heap.size := by omega
                    have hqn0 := Ne.symm hqm0
                    have hqm1 : bk ≠ wr.heap.size := by omega
                    have hqn1 := Ne.symm hqm1)
                 | skip
               have hS := And.intro (Blk.below hL.out.bc H22.out).cells4 ((H22.out.cell (p := ⟨bk, ok + j, none⟩) hbk).trans hck)
               simp only [and_assoc] at hS
               clear hb ho))
        all_goals
          first
          | (have hql := hQ.out.lt
             go_wp2_with fail
             go_meet
             exact ⟨_, _, _, rfl, rfl, hid (st4_blk hQ.out), hid (OwnS.setOther (OwnS.setOther (OwnS.setOther (OwnS.setOther hoo.out hQ.out (by decide) 0 _) (Blk.set_ hQ.out 0 _) (by decide) 1 _) (Blk.set_ (Blk.set_ hQ.out 0 _) 1 _) (by decide) 2 _) (Blk.set_ (Blk.set_ (Blk.set_ hQ.out 0 _) 1 _) 2 _) (by decide) 3 _), hid (Nat.le_refl _), hid (st4_below H22.out (Nat.le_refl _))⟩)
          | (go_wp2_with fail
             go_meet
             exact ⟨_, _, _, rfl, rfl, hid (Blk.new _ _ _), hid (OwnS.below hoo.out (below_a1 _ _)), hid H22.out.size, hid (below_alloc_ H22.out _)⟩)
      case rest =>
      obtain ⟨q1, Ac', k1, rfl, rfl, hB1, hO1, hg1, hW1⟩ := hcut
      obtain ⟨WA, hWA⟩ : ∃ WA, WA = wc := ⟨_, rfl⟩
      subst hWA
      have HBD := hid (hL.out.bd.below hW1.out)
      have HRD := hid (hL.out.rd.below hW1.out)
      obtain ⟨d0, d1, d2, d3⟩ := HBD.out.cells4
      have hckA := (hW1.out.cell (p := ⟨bk, ok + j, none⟩) hbk).trans hck
      have hw1 := hW1.out.size
      have hbkA : bk < WA.heap.size := by omega
      have l0A : qc < WA.heap.size := by omega
      have l1A : qc + 1 < WA.heap.size := by omega
      have hg1' := hg1.out
      clear c0 c1 c2 c3 hck CC
      go_upto_region 20 with (fail)
      go_cut [25, 26] from 146 to 154 (fun vq vb wx => ∃ (q : Nat) (A1 : Option Addr) (c1 : Nat), vq = .pointer (some ⟨q, 0, none⟩) ∧ vb = .bool true ∧ Hid (Blk wx q 48 [.int .i64 wd, .int .i64 dp, .int .i64 s, .slice A1 n c1]) ∧ Hid (OwnS (Value.int .i64) wx WA.heap.size 2 A1 D') ∧ Hid (WA.heap.size ≤ q) ∧ Hid (Below WA.heap.size WA wx))
      case first =>
        have H0 := hid (Below.refl WA.heap.size WA)
        go_region_held3 (fun w' => w'.cell? ⟨qc + 1, 0, none⟩ = some (.int .i64 wd) ∧ w'.cell? ⟨qc + 1, 1, none⟩ = some (.int .i64 dp) ∧ w'.cell? ⟨qc + 1, 2, none⟩ = some (.int .i64 s) ∧ w'.cell? ⟨qc + 1, 3, none⟩ = some (.slice Ad n cd) ∧ w'.cell? ⟨bk, ok + j, none⟩ = some (.int .i64 kz)) (first | go_keep | exact hS)
          (first
            | (go_at_call 54
               refine (CD.out _ (RdL.below HRD.out (by repeat first | with_reducible exact Below.refl _ _ | (refine Hid.out ?_; assumption) | refine below_drewN ?_ _ | refine below_drew1 ?_ | refine below_alloc_ ?_ _))).mono ?_
               rintro e W20 ⟨A1, c1, rfl, ho, hb, _, _⟩
               have H22 : Hid (Below WA.heap.size WA W20) := below_next (by repeat first | with_reducible exact Below.refl _ _ | (refine Hid.out ?_; assumption) | refine below_drewN ?_ _ | refine below_drew1 ?_ | refine below_alloc_ ?_ _) hb
               have hoo := hid (OwnS.mono ho (B' := WA.heap.size) (by first | exact Nat.le_refl _ | exact Nat.le_succ _ | (simp; done)))
               first
                 | (have hQ := hid (Blk.below (Blk.new WA 48 [.int .i64 0, .int .i64 0, .int .i64 0, .slice none 0 0]) (below_drew'' hb)))
                 | (have hQ := hid (Blk.below (Blk.new WA 48 [.int .i64 0, .int .i64 0, .int .i64 0, .slice none 0 0]) (below_drew' hb)))
                 | (have hQ := hid (Blk.below (Blk.new WA 48 [.int .i64 0, .int .i64 0, .int .i64 0, .slice none 0 0]) hb))
                 | skip
               first
                 | (obtain ⟨q0, q1, q2, q3⟩ := hQ.out.cells4
                    have qf0 := hQ.out.frozen 0
                    have qf1 := hQ.out.frozen 1
                    have qf2 := hQ.out.frozen 2
                    have qf3 := hQ.out.frozen 3
                    have hqm0 : qc + 1 ≠ WA.heap.size := by omega
                    have hqn0 := Ne.symm hqm0
                    have hqm1 : bk ≠ WA.heap.size := by omega
                    have hqn1 := Ne.symm hqm1)
                 | skip
               have hS := And.intro (Blk.below HBD.out H22.out).cells4 ((H22.out.cell (p := ⟨bk, ok + j, none⟩) hbkA).trans hckA)
               simp only [and_assoc] at hS
               clear hb ho))
        all_goals
          first
          | (have hql := hQ.out.lt
             go_wp2_with fail
             go_meet
             exact ⟨_, _, _, rfl, rfl, hid (st4_blk hQ.out), hid (OwnS.setOther (OwnS.setOther (OwnS.setOther (OwnS.setOther hoo.out hQ.out (by decide) 0 _) (Blk.set_ hQ.out 0 _) (by decide) 1 _) (Blk.set_ (Blk.set_ hQ.out 0 _) 1 _) (by decide) 2 _) (Blk.set_ (Blk.set_ (Blk.set_ hQ.out 0 _) 1 _) 2 _) (by decide) 3 _), hid (Nat.le_refl _), hid (st4_below H22.out (Nat.le_refl _))⟩)
          | (go_wp2_with fail
             go_meet
             exact ⟨_, _, _, rfl, rfl, hid (Blk.new _ _ _), hid (OwnS.below hoo.out (below_a1 _ _)), hid H22.out.size, hid (below_alloc_ H22.out _)⟩)
      case rest =>
      obtain ⟨q2, Ad', k2, rfl, rfl, hB2, hO2, hg2, hW2⟩ := hcut
      obtain ⟨WB, hWB⟩ : ∃ WB, WB = wc := ⟨_, rfl⟩
      subst hWB
      have hg2' := hg2.out
      have HB1 := hid (hB1.out.below hW2.out)
      have hq1l := HB1.out.lt
      have hq2l := hB2.out.lt
      have hw2 := hW2.out.size
      have HBC := hid ((hL.out.bc.below hW1.out).below hW2.out)
      have HBD2 := hid (HBD.out.below hW2.out)
      obtain ⟨e0, e1, e2, e3⟩ := HB1.out.cells4
      obtain ⟨f0, f1, f2, f3⟩ := hB2.out.cells4
      obtain ⟨c0, c1, c2, c3⟩ := HBC.out.cells4
      have cf0 := HBC.out.frozen 0
      have cf1 := HBC.out.frozen 1
      have cf2 := HBC.out.frozen 2
      have cf3 := HBC.out.frozen 3
      obtain ⟨g0, g1, g2, g3⟩ := HBD2.out.cells4
      have df0 := HBD2.out.frozen 0
      have df1 := HBD2.out.frozen 1
      have df2 := HBD2.out.frozen 2
      have df3 := HBD2.out.frozen 3
      have l0B : qc < WB.heap.size := by omega
      have l1B : qc + 1 < WB.heap.size := by omega
      have n1 : q1 ≠ qc := by omega
      have n2 : q1 ≠ qc + 1 := by omega
      have n3 : q2 ≠ qc := by omega
      have n4 : q2 ≠ qc + 1 := by omega
      have n5 := Ne.symm n1
      have n6 := Ne.symm n2
      have n7 := Ne.symm n3
      have n8 := Ne.symm n4
      clear d0 d1 d2 d3 hckA CD
      go_wp2
      have GB : Below wr.heap.size wr WB := hW1.out.trans (hW2.out.mono hW1.out.size)
      have FC : ∀ g o, Ac' = some ⟨g, o, none⟩ → C' ≠ [] → g ≠ qc ∧ g ≠ qc + 1 := own_far hO1.out (by omega)
      have FD : ∀ g o, Ad' = some ⟨g, o, none⟩ → D' ≠ [] → g ≠ qc ∧ g ≠ qc + 1 := own_far hO2.out (by omega)
      refine ⟨⟨j + 1, Ac', Ad', k1, k2, C', D', by go_num, by omega, hid ?_⟩, by simp [intOf]; omega⟩
      refine ⟨st4_far (st4_blk HBC.out) (by omega), st4_blk (st4_far HBD2.out (by omega)), st4_rd (st4_rd (hO1.out.rd.below hW2.out) (fun g o h1 h2 => (FC g o h1 h2).1)) (fun g o h1 h2 => (FC g o h1 h2).2), st4_rd (st4_rd hO2.out.rd (fun g o h1 h2 => (FD g o h1 h2).1)) (fun g o h1 h2 => (FD g o h1 h2).2), FC, FD,
        ⟨st4_far (st4_far (hL.out.ba.1.below GB) (by omega)) (by omega), st4_rd (st4_rd (hL.out.ba.2.below GB) (fun g o h1 h2 => (hL.out.fa g o h1 h2).1)) (fun g o h1 h2 => (hL.out.fa g o h1 h2).2)⟩, hL.out.fa, st4_rd (st4_rd (hL.out.rk.below GB) (fun g o h1 h2 => (hL.out.fk g o h1 h2).1)) (fun g o h1 h2 => (hL.out.fk g o h1 h2).2), hL.out.fk,
        st4_below (st4_below (hL.out.bel.trans (GB.mono hL.out.bel.size)) hqcw) (by omega), ?_, ?_, ?_, ?_, ?_⟩
      · rw [HC'.out, putC_length]; exact hL.out.lc
      · rw [HD'.out, putC_length]; exact hL.out.ld
      · rw [HC'.out, HD'.out]; exact putC_zip (hal.trans hL.out.ld.symm) (hL.out.lc.trans hL.out.ld.symm) hL.out.zip
      · intro y hy
        rw [HC'.out] at hy
        have := sm_put (by_ := 1) hSd.out (by omega) (by omega) hL.out.sc y hy
        omega
      · intro y hy
        rw [HD'.out] at hy
        have := sm_put (by_ := 1) hSd.out (by omega) (by omega) hL.out.sd y hy
        omega
    · have hi : ¬ (j : Int) < (K.length : Int) := by omega
      have LL := hL.out
      have hSC : Hid (Sm C 100000) := fun y hy => by have := LL.sc y hy; omega
      have hSD : Hid (Sm D 100000) := fun y hy => by have := LL.sd y hy; omega
      have hSA5 : Hid (Sm a 100000) := fun y hy => by have := SA.out y hy; omega
      have CM : Hid (∀ w, RdL (Value.int .i64) w Aa a → RdL (Value.int .i64) w Ac C → Calls Try.prog 58 #[.agg #[.int .i64 wd, .int .i64 dp, .int .i64 s, .slice Aa n ca], .agg #[.int .i64 wd, .int .i64 dp, .int .i64 s, .slice Ac n cc]] w fun e w' => ∃ F k, e = .returned (.tuple #[.agg #[.int .i64 wd, .int .i64 dp, .int .i64 s, .slice F n k], .bool true]) ∧ OwnS (Value.int .i64) w' w.heap.size 2 F D ∧ Below w.heap.size w w') := by
        have h := HN.out
        have h1 := LL.lc
        have h2 := LL.ld
        have h3 := LL.zip
        clear LL
        subst h
        exact fun w ha hc => mergeS hSd.out (M := 100000) (by omega) hSA5.out hSC.out hSD.out hal h1 h2 h3 w ha hc
      have HLd := hid LL.ld
      clear LL
      obtain ⟨c0, c1, c2, c3⟩ := hL.out.bc.cells4
      obtain ⟨d0, d1, d2, d3⟩ := hL.out.ba.1.cells4
      clear hSC hSA5 hSd HN CP
      go_wp2_with fail
      refine (CM.out _ hL.out.ba.2 hL.out.rc).mono ?_
      rintro e W13 ⟨F, kf, rfl, hoF, hbF⟩
      have RF := hid hoF.rd
      have RD := hid (hL.out.rd.below hbF)
      have BD := hid (hL.out.bd.below hbF)
      have S13 := hid (hL.out.bel.trans (hbF.mono hL.out.bel.size))
      clear hoF hbF CM hL c0 c1 c2 c3 d0 d1 d2 d3
      go_upto_region 27 with (fail)
      obtain ⟨W14, hW14⟩ : ∃ W14, W14 = W13.alloc (.cells #[.int .i64 wd, .int .i64 dp, .int .i64 s, .slice F n kf] 48) := ⟨_, rfl⟩
      rw [← hW14]
      obtain ⟨qf, hqf⟩ : ∃ qf, qf = W13.heap.size := ⟨_, rfl⟩
      rw [← hqf]
      obtain ⟨bf, sf⟩ := Bx.new RF.out hW14
      rw [← hqf] at bf
      have BF := hid bf
      have BD3 := hid (BD.out.below sf)
      have RD3 := hid (RD.out.below sf)
      have S14 := hid (S13.out.trans (sf.mono S13.out.size))
      clear bf sf hW14 hqf S13 RF BD RD
      obtain ⟨c0, c1, c2, c3⟩ := BF.out.1.cells4
      obtain ⟨d0, d1, d2, d3⟩ := BD3.out.cells4
      go_wp2_with fail
      refine (CS.out F Ad kf cd D _ HLd.out hSD.out BF.out.2 RD3.out).mono ?_
      rintro e W15 ⟨rfl, hb15⟩
      have BF4 := hid (BF.out.below hb15)
      have BD4 := hid (BD3.out.below hb15)
      have RD4 := hid (RD3.out.below hb15)
      have S15 := hid (S14.out.trans (hb15.mono S14.out.size))
      clear hb15 BF BD3 RD3 S14 c0 c1 c2 c3 d0 d1 d2 d3
      obtain ⟨c0, c1, c2, c3⟩ := BF4.out.1.cells4
      obtain ⟨d0, d1, d2, d3⟩ := BD4.out.cells4
      go_wp2_with fail
      refine (CI.out F Ad kf cd D _ HLd.out BF4.out.2 RD4.out).mono ?_
      rintro e W16 ⟨rfl, hb16⟩
      have S16 := hid (S15.out.trans (hb16.mono S15.out.size))
      clear hb16 c0 c1 c2 c3 d0 d1 d2 d3
      go_wp2
      go_ret
      exact ⟨rfl, S16.out⟩
end Go.Proofs.Ytbodfepfapjikaa
