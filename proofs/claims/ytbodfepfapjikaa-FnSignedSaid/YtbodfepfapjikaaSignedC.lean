/-
  Cells with a capacity that is told: clones, NewCells, PutSigned; SignedNorm of cells of any capacity. Printed by gen_signedc.py.
-/
import Derived.Test.YtbodfepfapjikaaSignedAt
import Derived.Test.YtbodfepfapjikaaNorm
import Derived.Test.YtbodfepfapjikaaNewCells
namespace Go.Proofs.Ytbodfepfapjikaa
open Go.RowKit
set_option linter.unusedVariables false
set_option linter.unusedSimpArgs false

/-- As RetCl; the capacity is told too. -/
def RetCc (M : Nat) (w : World) (p : (Int × Int × Int × List Int) × Bool) (e : Ending) (w' : World) : Prop := ∃ A c,
  e = .returned (.tuple #[.agg #[.int .i64 p.1.1, .int .i64 p.1.2.1, .int .i64 p.1.2.2.1, .slice A p.1.2.2.2.length c], .bool p.2]) ∧ OwnS (Value.int .i64) w' w.heap.size 2 A p.1.2.2.2 ∧ p.1.2.2.2.length ≤ 1048576 ∧ Below w.heap.size w w' ∧ p.1.2.2.2.length ≤ c ∧ c ≤ M
theorem retCc_no {M : Nat} {w : World} : ∀ (e : Ending) (w' : World), (e = .returned (.tuple #[.agg #[.int .i64 0, .int .i64 0, .int .i64 0, .slice none 0 0], .bool false]) ∧ Below w.heap.size w w') → RetCc M w ((0, 0, 0, []), false) e w' :=
  fun e w' ⟨he, hb⟩ => ⟨none, 0, he, OwnS.nil, by simp, hb, by simp, by simp⟩
theorem retCc_give {M : Nat} {w w' : World} {a0 a1 a2 : Int} {x : List Int} {A : Option Addr} {n c : Nat} {b0 b1 b2 : Int} {A' : Option Addr} {n' c' : Nat} {t : Bool} (hh : GiveCl a0 a1 a2 x A n c b0 b1 b2 A' n' c' t)
    (ho : OwnS (Value.int .i64) w' w.heap.size 2 A x) (hl : x.length = n) (hn : n ≤ 1048576) (hb : Below w.heap.size w w') (hc1 : n ≤ c) (hc2 : c ≤ M) : RetCc M w (giveP a0 a1 a2 x) (.returned (.tuple #[.agg #[.int .i64 b0, .int .i64 b1, .int .i64 b2, .slice A' n' c'], .bool t])) w' := by
  subst hl
  rcases hh with ⟨hv, rfl, rfl, rfl, rfl, rfl, rfl, rfl⟩ | ⟨hv, rfl, rfl, rfl, rfl, rfl, rfl, rfl⟩
  · rw [giveP, if_pos hv]
    exact ⟨A', c', rfl, ho, hn, hb, hc1, hc2⟩
  · rw [giveP, if_neg (by rw [hv]; decide)]
    exact ⟨none, 0, rfl, OwnS.nil, by simp, hb, by simp, by simp⟩
/-- A slice built by append: with its capacity. -/
theorem ownS_cap {α : Type} {f : α → Value} {w : World} {B : Nat} {e : TypeId} {v : Value} {n : Nat} {xs : List α} (h : w.ownsRow B e 1 v n (xs.map f)) (hl : xs.length = n) :
    ∃ A c, v = .slice A xs.length c ∧ OwnS f w B e A xs ∧ xs.length ≤ c ∧ c ≤ 9223372036854775807 := by
  obtain ⟨A, c, hv, ho⟩ := ownS_of_row h hl
  obtain ⟨hn, ⟨h, h0⟩ | ⟨g, cap, cur, hv2, hB, hg, hc, hm, hs, ht⟩⟩ := h
  · rw [h] at hv
    injection hv with h1 h2 h3
    exact ⟨A, c, by rw [h, ← h1, ← h2, ← h3], ho, by omega, by omega⟩
  · rw [hv2] at hv
    injection hv with h1 h2 h3
    exact ⟨A, c, by rw [hv2, h1, h2, h3], ho, by omega, by unfold maxLen at hm; omega⟩

set_option maxRecDepth 100000 in
set_option maxHeartbeats 800000 in
theorem cloneI_cap (A : Option Addr) (c : Nat) (x : List Int) (w : World) (hx : RdL (Value.int .i64) w A x) (hn : x.length ≤ 1048576) :
    Calls Try.prog 63 #[.slice A x.length c] w fun e w' => ∃ A' c', e = .returned (.slice A' x.length c') ∧ OwnS (Value.int .i64) w' w.heap.size 2 A' x ∧ Below w.heap.size w w' ∧ x.length ≤ c' ∧ c' ≤ 9223372036854775807 := by
  obtain ⟨i0, hi0, hz0, hz1, hz2⟩ := info_parts Try.infoI
  have q22 : ∀ (w : World) (a : Option Addr) (n c n' c' : Nat), (binOp .eql 22 (.slice a n c) (.slice none n' c')).run Try.prog w = .ok (.bool a.isNone) w := fun w a n c n' c' => Lib.run_eql_slice_nil w _ _ a n c n' c' Try.underlying22
  cases A with
  | none =>
    obtain rfl := rd_none hx
    go_enter Try.func63, Try.ntmps63
    go_wp2
    go_ret
    exact ⟨none, 0, rfl, OwnS.nil, Below.refl _ _, by simp, by simp⟩
  | some ad =>
    have HX := hid hx
    clear hx
    go_enter Try.func63, Try.ntmps63
    go_wp2_with (at_builtin; refine wpList_append_own _ rfl _ _ 22 rfl w.heap.size 2 i0 (.int .i64 0) 1 8 Try.underlying22 hi0 hz0 hz1 hz2 rfl (by decide) _ 0 [] rfl (World.ownsRow_made w #[] 0 (Nat.le_refl _) (Nat.zero_le _) rfl) ad x.length c (x.map (Value.int .i64)) rfl ?c1 (rd_news (HX.out.below (below_a1 _ _))) ?c2 ?c3 ?c4 ?c5 ?_)
    case c1 => simp
    case c2 => intro u hu; obtain ⟨y, _, rfl⟩ := List.mem_map.1 hu; rfl
    case c3 => simp only [maxLen]; omega
    case c4 => omega
    case c5 => simp
    intro v' w1 hown' hgrow _
    have O1 := hid hown'
    have W1 : Hid (Below w.heap.size w w1) := ((Below.refl _ w).alloc (Nat.le_refl _) _).grown hgrow (by simp) (by intro k hk; simp [Value.ownBlock] at hk; omega)
    clear hown' hgrow
    go_wp2
    go_ret
    obtain ⟨A', c', hv, ho, hc1, hc2⟩ := ownS_cap (f := (Value.int .i64)) (xs := x) (n := 0 + x.length) (by simpa using O1.out) (by simp)
    exact ⟨A', c', congrArg Ending.returned hv, ho, W1.out, hc1, hc2⟩

set_option maxHeartbeats 800000 in
theorem copyCells_cap (a0 a1 a2 : Int) (A : Option Addr) (c : Nat) (x : List Int) (w : World) (hx : RdL (Value.int .i64) w A x) (hn : x.length ≤ 1048576) :
    Calls Try.prog 108 #[.agg #[.int .i64 a0, .int .i64 a1, .int .i64 a2, .slice A x.length c]] w fun e w' => ∃ A' c', e = .returned (.agg #[.int .i64 a0, .int .i64 a1, .int .i64 a2, .slice A' x.length c']) ∧ OwnS (Value.int .i64) w' w.heap.size 2 A' x ∧ Below w.heap.size w w' ∧ x.length ≤ c' ∧ c' ≤ 9223372036854775807 := by
  have HX := hid hx
  have B0 := hid ((Blk.new w 48 [.int .i64 a0, .int .i64 a1, .int .i64 a2, .slice A x.length c]).alloc (.cells #[.int .i64 0, .int .i64 0, .int .i64 0, .slice none 0 0] 48))
  have R0 := hid (Blk.new2 w (.cells #[.int .i64 a0, .int .i64 a1, .int .i64 a2, .slice A x.length c] 48) 48 [.int .i64 0, .int .i64 0, .int .i64 0, .slice none 0 0])
  clear hx
  go_enter Try.func108, Try.ntmps108
  go_wp2_with fail
  refine (cloneI_cap A c x _ (HX.out.below (below_a2 _ _ _)) hn).mono ?_
  rintro e w1 ⟨A1, c1, rfl, ho, hb, hcc⟩
  have HCC := hid hcc
  clear hcc
  obtain ⟨c0, c1', c2, c3⟩ := (B0.out.below hb).cells4
  have g3 := (B0.out.below hb).frozen 3
  obtain ⟨d0, d1, d2, d3⟩ := (R0.out.below hb).cells4
  have f0 := (R0.out.below hb).frozen 0
  have f1 := (R0.out.below hb).frozen 1
  have f2 := (R0.out.below hb).frozen 2
  have f3 := (R0.out.below hb).frozen 3
  have S1 := below_call (below_a2 _ _ _) hb
  have O1 := hid (ho.mono (B' := w.heap.size + 2) (by simp))
  clear hb B0 R0 ho
  go_wp2
  refine bodyPost_ret (v := .agg #[.int .i64 a0, .int .i64 a1, .int .i64 a2, .slice A1 x.length c1]) (by simp [results, Try.results108, go_sem, d0, d1, d2, d3]) rfl ⟨A1, c1, rfl, ?_, ?_, HCC.out⟩
  · exact (((((O1.out.setFar (by simp <;> omega) _).setFar (by simp <;> omega) _).setFar (by simp <;> omega) _).setFar (by simp <;> omega) _).setFar (by simp <;> omega) _).mono (by omega)
  · exact ((((S1.out.setCell (by simp) _).setCell (by simp) _).setCell (by simp) _).setCell (by simp) _).setCell (by simp) _

set_option maxRecDepth 100000 in
set_option maxHeartbeats 3200000 in
theorem iPutSigned_cap (a0 a1 a2 : Int) (A : Option Addr) (c : Nat) (x : List Int) (key by_ : Int) (w : World) (h0 : W64 a0) (h1 : W64 a1) (h2 : W64 a2) (hx : RdL (Value.int .i64) w A x) (hn : x.length ≤ 1048576) (we : ∀ y ∈ x, W64 y) (hkey : W64 key) (hby : W64 by_) :
    Calls Try.prog 54 #[.agg #[.int .i64 a0, .int .i64 a1, .int .i64 a2, .slice A x.length c], .int .i64 key, .int .i64 by_] w (RetCc 9223372036854775807 w (pPutSigned a0 a1 a2 x key by_)) := by
  have HX := hid hx
  have WE := hid we
  have B0 := hid ((Blk.new w 48 [.int .i64 a0, .int .i64 a1, .int .i64 a2, .slice A x.length c]).alloc (.cells #[.int .i64 0, .int .i64 0, .int .i64 0, .slice none 0 0] 48))
  have R0 := hid (Blk.new2 w (.cells #[.int .i64 a0, .int .i64 a1, .int .i64 a2, .slice A x.length c] 48) 48 [.int .i64 0, .int .i64 0, .int .i64 0, .slice none 0 0])
  clear hx we hkey hby
  have key_ : ∀ u v z : Bool, vCells a0 a1 a2 x = u → inB key 0 4294967295 = v → inB by_ (-1000000) 1000000 = z → (u && v && z) = false →
      Calls Try.prog 54 #[.agg #[.int .i64 a0, .int .i64 a1, .int .i64 a2, .slice A x.length c], .int .i64 key, .int .i64 by_] w (RetCc 9223372036854775807 w ((0, 0, 0, []), false)) := by
    intro u v z hu hv hz hno
    refine Calls.mono ?_ retCc_no
    cases u
    case' true =>
      cases v
      case' true => cases z
    all_goals
      first
      | (exfalso; revert hno; decide)
      | (go_enter Try.func54, Try.ntmps54
         go_wp2_with fail
         refine (iValidCells_any a0 a1 a2 A c x _ h0 h1 h2 (HX.out.below (below_a2 _ _ _)) hn WE.out).mono ?_
         rw [hu]
         rintro e w1 ⟨rfl, hb⟩
         obtain ⟨d0, d1, d2, d3⟩ := (R0.out.below hb).cells4
         have f0 := (R0.out.below hb).frozen 0
         have f1 := (R0.out.below hb).frozen 1
         have f2 := (R0.out.below hb).frozen 2
         have f3 := (R0.out.below hb).frozen 3
         have S1 := below_call (below_a2 _ _ _) hb
         clear hb B0 R0 hu hno
         go_wp2_with (first | (go_at_call 67; refine (within_any _ _ _ _).mono ?_; rintro e w' ⟨rfl, rfl⟩) | (go_at_call 72; refine (IsKey_any _ _).mono ?_; rintro e w' ⟨rfl, rfl⟩))
         refine bodyPost_ret (v := .tuple #[.agg #[.int .i64 0, .int .i64 0, .int .i64 0, .slice none 0 0], .bool false]) (by simp [results, Try.results54, go_sem, d0, d1, d2, d3]) rfl ⟨rfl, ?_⟩
         exact (((S1.out.setCell (by simp) _).setCell (by simp) _).setCell (by simp) _).setCell (by simp) _)
  cases hgo : (vCells a0 a1 a2 x && inB key 0 4294967295 && inB by_ (-1000000) 1000000) with
  | false =>
    have hp : pPutSigned a0 a1 a2 x key by_ = ((0, 0, 0, []), false) := by simp only [pPutSigned, hgo]; rfl
    rw [hp]
    exact key_ _ _ _ rfl rfl rfl hgo
  | true =>
  have hp : pPutSigned a0 a1 a2 x key by_ = giveP a0 a1 a2 (stepL (fSig key.toNat a2.toNat by_) x (cellsL a0.toNat a2.toNat key.toNat a1.toNat) a1.toNat) := by simp only [pPutSigned, hgo]; rfl
  rw [hp]
  simp only [Bool.and_eq_true] at hgo
  obtain ⟨⟨hv, hk⟩, hby⟩ := hgo
  obtain ⟨⟨hw1, hw2⟩, ⟨hd1, hd2⟩, ⟨hs1, hs2⟩, hl, hbd⟩ := vCells_iff' hv
  obtain ⟨hk1, hk2⟩ := inB_iff.1 hk
  obtain ⟨hby1, hby2⟩ := inB_iff.1 hby
  obtain ⟨wd, rfl⟩ := Int.eq_ofNat_of_zero_le (show 0 ≤ a0 by omega)
  obtain ⟨dp, rfl⟩ := Int.eq_ofNat_of_zero_le (show 0 ≤ a1 by omega)
  obtain ⟨s, rfl⟩ := Int.eq_ofNat_of_zero_le hs1
  obtain ⟨key, rfl⟩ := Int.eq_ofNat_of_zero_le hk1
  simp only [Int.toNat_natCast] at hp ⊢
  have hl' : x.length = wd * dp := by rw [← Int.natCast_mul] at hl; omega
  have HL := hid hl'
  have hlx : x.length ≤ 384 := by rw [hl']; have := Nat.mul_le_mul (show wd ≤ 64 by omega) (show dp ≤ 6 by omega); omega
  have hlp : 0 < x.length := by rw [hl']; exact Nat.mul_pos (by omega) (by omega)
  have HBD := hid hbd
  have HV := hid hv
  clear hl hl' hbd hp hv key_
  have hFb : ∀ k u, (fSig key s by_) k u ≤ max u 1000000000000 + 1000000 ∧ min u (-1000000000000) - 1000000 ≤ (fSig key s by_) k u := fSig_bound ⟨hby1, hby2⟩
  have HFB := hid (stepL_bound (l := cellsL wd s key dp) HBD.out (by omega) hFb)
  obtain ⟨F, hF⟩ : ∃ F, F = fSig key s by_ := ⟨_, rfl⟩
  have HF := hid hF
  rw [← hF] at HFB ⊢
  clear hFb hF
  go_enter Try.func54, Try.ntmps54
  go_wp2_with fail
  refine (iValidCells_any wd dp s A c x _ h0 h1 h2 (HX.out.below (below_a2 _ _ _)) hn WE.out).mono ?_
  rw [HV.out]
  rintro e w1 ⟨rfl, hb⟩
  have B1 := hid (B0.out.below hb)
  have R1 := hid (R0.out.below hb)
  have S1 := below_call (below_a2 _ _ _) hb
  have hl1 : w.heap.size + 2 ≤ w1.heap.size := by have := hb.size; simp at this; omega
  clear hb B0 R0
  obtain ⟨k0, k1, k2, k3⟩ := B1.out.cells4
  go_wp2_with (first | (go_at_call 67; refine (within_any _ _ _ _).mono ?_; rintro e w' ⟨rfl, rfl⟩) | (go_at_call 72; refine (IsKey_any _ _).mono ?_; rintro e w' ⟨rfl, rfl⟩))
  refine (copyCells_cap wd dp s A c x _ (HX.out.below S1.out) hn).mono ?_
  rintro e w2 ⟨A1, c1, rfl, ho, hb, hcc⟩
  have HCC := hid hcc
  clear hcc
  clear k0 k1 k2 k3 hk hby
  have ho' : OwnS (Value.int .i64) w2 (w.heap.size + 2) 2 A1 x := ho.mono hl1
  obtain ⟨g, ex, rfl, hgB, hgb⟩ := ho' (by rintro rfl; simp at hlp)
  have hgl := hgb.lt
  have hl2 := hb.size
  obtain ⟨wq, hwc⟩ : ∃ wq, wq = w2.alloc (.cells #[.int .i64 wd, .int .i64 dp, .int .i64 s, .slice (some ⟨g, 0, none⟩) x.length c1] 48) := ⟨_, rfl⟩
  obtain ⟨q, hq⟩ : ∃ q, q = w2.heap.size := ⟨_, rfl⟩
  have HQ : Hid (Blk wq q 48 [.int .i64 wd, .int .i64 dp, .int .i64 s, .slice (some ⟨g, 0, none⟩) x.length c1]) := by rw [hwc, hq]; exact Blk.new _ _ _
  have HO : Hid (OwnS (Value.int .i64) wq (w.heap.size + 2) 2 (some ⟨g, 0, none⟩) x) := by rw [hwc]; exact ho'.below (below_a1 _ _)
  have S2 : Hid (Below w.heap.size w wq) := by rw [hwc]; exact (S1.out.trans (hb.mono (by omega))).alloc (by omega) _
  have B2 : Hid (Blk wq w.heap.size 48 [.int .i64 wd, .int .i64 dp, .int .i64 s, .slice A x.length c]) := by rw [hwc]; exact (B1.out.below hb).below (below_a1 _ _)
  have R2 : Hid (Blk wq (w.heap.size + 1) 48 [.int .i64 0, .int .i64 0, .int .i64 0, .slice none 0 0]) := by rw [hwc]; exact (R1.out.below hb).below (below_a1 _ _)
  have X2 : Hid (RdL (Value.int .i64) wq A x) := HX.out.below S2.out
  have hszq : wq.heap.size = q + 1 := by rw [hwc, hq]; simp
  have hgq : g ≠ q := by omega
  have hqg := Ne.symm hgq
  have hgw : g ≠ w.heap.size := by omega
  have hwg := Ne.symm hgw
  clear hgb hb ho ho' R1 B1
  go_wp2_with fail
  rw [← hwc, ← hq]
  clear hwc hq
  refine (places_any wd dp s key x.length c1 _ _ (by omega) (by omega) (by omega) (by omega) (by omega)).mono ?_
  rintro e w3 ⟨A3, c3, rfl, hoP, hbP⟩
  have HP := hid hoP
  have O3 := hid (HO.out.below hbP)
  have Q3 := hid (HQ.out.below hbP)
  have R3 := hid (R2.out.below hbP)
  have S3 : Hid (Below w.heap.size w w3) := S2.out.trans (hbP.mono S2.out.size)
  have hl3 : wq.heap.size ≤ w3.heap.size := hbP.size
  have HA := hid (OwnS.apart_lt HO.out hoP (Nat.le_refl _))
  have hPl := cellsL_length wd s key dp
  have hmem : Hid (∀ p ∈ cellsL wd s key dp, ∃ m : Nat, p = m ∧ m < x.length) := fun p hp' => by rw [HL.out]; exact cellsL_mem (by omega) hp'
  obtain ⟨P, hPe⟩ : ∃ P, P = cellsL wd s key dp := ⟨_, rfl⟩
  rw [← hPe] at HA HP hPl hmem HFB ⊢
  have hP8 : P.length ≤ 6 := by omega
  have HPe := hid hPe
  clear hPe hoP hbP
  go_wp2
  go_loopw [9, 10, 31] (fun ia ib j wi => ∃ m : Nat, m ≤ P.length ∧ j = .int .i64 m ∧ Hid (OwnS (Value.int .i64) wi (w.heap.size + 2) 2 (some ⟨g, 0, none⟩) (stepL F x P m)) ∧ Hid (TouchAll w3 wi [(some ⟨g, 0, none⟩, x.length)])) (fun ia ib j _ => P.length - (intOf j).toNat)
  case atStart => exact ⟨0, Nat.zero_le _, rfl, O3, touchAll_refl _ _⟩
  case round =>
    obtain ⟨m, hmr, rfl, hom, hTm⟩ := hrel
    have hszr : w3.heap.size ≤ wr.heap.size := hTm.out.size
    have QR := hid (Q3.out.touchAll hTm.out (by intro p hp; simp at hp; subst hp; exact .inr fun o e => by injection e with e; injection e with e; omega))
    by_cases hlm : m < P.length
    · have him : (m : Int) < (P.length : Int) := by omega
      obtain ⟨b3, o3, p, rfl, hcp, hpk⟩ := (HP.out.touchAll hTm.out (by intro p hp; simp at hp; subst hp; exact HA.out)).rd.at_ hlm
      obtain ⟨n, rfl, hnx⟩ := hmem.out p (List.mem_of_getElem? hpk.out)
      have hlen := stepL_length F x P m
      obtain ⟨g', u, hg', hgB', hcy, hfy, hym, hput⟩ := hom.out.put (j := n) (by omega)
      injection hg' with hg'; injection hg' with hg'
      subst hg'
      have hbu := HFB.out m u (List.mem_of_getElem? hym.out)
      obtain ⟨q0, q1, q2, q3⟩ := QR.out.cells4
      have hn' : (n : Int) < (x.length : Int) := by omega
      have hn0 : (0 : Int) ≤ (n : Int) := by omega
      have hub1 : -1000006000000 ≤ u := by omega
      have hub2 : u ≤ 1000006000000 := by omega
      have hFk : F m u = u + by_ * signN key (saltN s (1000 + m)) := by rw [HF.out]; rfl
      have hszm : wr.heap.size ≤ wr.heap.size := Nat.le_refl _
      rcases signN_or key (saltN s (1000 + m)) with hsg | hsg
      all_goals
        have HSG := hid hsg
        rw [hsg] at hFk
        clear hsg
        have v1 : IntKind.i64.wrap (by_ * 1) = by_ := by rw [IntKind.wrap_i64]; omega
        have v2 : IntKind.i64.wrap (by_ * -1) = -by_ := by rw [IntKind.wrap_i64]; omega
        have v3 : IntKind.i64.wrap (u + by_) = u + by_ := by rw [IntKind.wrap_i64]; omega
        have v4 : IntKind.i64.wrap (u + -by_) = u + -by_ := by rw [IntKind.wrap_i64]; omega
        have v5 : IntKind.i64.wrap by_ = by_ := by rw [IntKind.wrap_i64]; omega
        have v6 : IntKind.i64.wrap (-by_) = -by_ := by rw [IntKind.wrap_i64]; omega
        have v7 : IntKind.i64.wrap (u - by_) = u + -by_ := by rw [IntKind.wrap_i64]; omega
        simp only [Int.mul_one, Int.mul_neg] at hFk
        have HFk := hid hFk
        clear hput hlen hgB' hbu hFk
        go_wp2
        go_region_law (first
          | (go_simp
             go_at_call 84
             refine (rowSign_any wd dp s x.length c1 key m _ _ (by omega) (by omega) (by omega)).mono ?_
             rw [HSG.out]
             rintro e w1 ⟨rfl, hbb⟩
             have hbb := below_drew' hbb
             obtain ⟨p0, p1, p2, p3⟩ := (QR.out.below hbb).cells4
             have hcy1 := cell_below hcy hbb
             have hfy1 := frozen_below hcy hfy hbb
             have hO1 := hid (hom.out.below hbb)
             have hT1 := hid (touchAll_below hTm.out hbb)
             clear hbb))
        all_goals
          obtain ⟨g2, u2, hg2, _, hc2, _, hy2, hput2⟩ := hO1.out.put (j := n) (by rw [stepL_length]; omega)
          injection hg2 with hg2; injection hg2 with hg2
          subst hg2
          obtain rfl : u2 = u := by have h1 := hy2.out; rw [hym.out] at h1; injection h1 with h1; exact h1.symm
          have hO2 := hput2 (F m u2)
          rw [stepL_succ hpk hym, HFk.out] at hO2
          have hT2 := hid (touchAll_set hT1.out (show 0 < x.length by omega) n (.int .i64 (F m u2)))
          rw [HFk.out] at hT2
          go_wp2
          exact ⟨⟨m + 1, by omega, by go_num, hO2, hT2⟩, by simp [intOf]; omega⟩
    · obtain rfl : m = P.length := by omega
      have him : ¬ (P.length : Int) < (P.length : Int) := by omega
      have R4 := hid (R3.out.touchAll hTm.out (by intro p hp; simp at hp; subst hp; exact .inr fun o e => by injection e with e; injection e with e; omega))
      have hw3 : w.heap.size ≤ w3.heap.size := S3.out.size
      have hgB3 : w.heap.size ≤ g := by omega
      have S4 : Hid (Below w.heap.size w wr) := S3.out.trans (hTm.out.below1 (B := w.heap.size) hw3 hgB3)
      clear HP hmem HA
      clear Q3 R3 S3 O3 hl3
      have Q3 := QR
      have R3 := R4
      have S3 := S4
      have O3 := hom
      have hl3 : w.heap.size + 2 ≤ wr.heap.size := by have := R3.out.lt; omega
      have hyl : (stepL F x P P.length).length = x.length := stepL_length _ _ _ _
      have HYL := hid hyl
      have HBU : Hid (∀ y ∈ stepL F x P P.length, W64 y) := fun y hy => by
        have h1 := HFB.out P.length y hy
        exact w64_of_bounds (by omega)
      clear hyl
      obtain ⟨c0, c1', c2, c3⟩ := Q3.out.cells4
      go_wp2_with fail
      refine (ifCells_any wd dp s _ x.length c1 (stepL F x P P.length) _ h0 h1 h2 HYL.out O3.out.rd hn HBU.out).mono ?_
      rintro e w4 ⟨b0, b1, b2, A', n', c', t, rfl, hG, hb⟩
      have S4 := hid (S3.out.trans (hb.mono S3.out.size))
      have O4 := hid (O3.out.below hb)
      obtain ⟨d0, d1, d2, d3⟩ := (R3.out.below hb).cells4
      have f0 := (R3.out.below hb).frozen 0
      have f1 := (R3.out.below hb).frozen 1
      have f2 := (R3.out.below hb).frozen 2
      have f3 := (R3.out.below hb).frozen 3
      clear hb c0 c1' c2 c3 Q3 R3 O3
      go_wp2
      have hPP := HPe.out
      clear HPe
      subst hPP
      rw [cellsL_length] at hG O4 HYL
      refine bodyPost_ret (v := .tuple #[.agg #[.int .i64 b0, .int .i64 b1, .int .i64 b2, .slice A' n' c'], .bool t]) (by simp [results, Try.results54, go_sem, d0, d1, d2, d3]) rfl (retCc_give hG.out ?_ HYL.out hn ?_ HCC.out.1 HCC.out.2)
      · exact ((((O4.out.setFar (by simp <;> omega) _).setFar (by simp <;> omega) _).setFar (by simp <;> omega) _).setFar (by simp <;> omega) _).mono (by omega)
      · exact (((S4.out.setCell (by simp <;> omega) _).setCell (by simp <;> omega) _).setCell (by simp <;> omega) _).setCell (by simp <;> omega) _

set_option maxHeartbeats 1600000 in
theorem iNewCells_cap (a0 a1 a2 : Int) (w : World) (h0 : W64 a0) (h1 : W64 a1) (h2 : W64 a2) :
    Calls Try.prog 52 #[.int .i64 a0, .int .i64 a1, .int .i64 a2] w (RetCc 1048576 w (pNewCells a0 a1 a2)) := by
  cases e0 : inB a0 2 64 with
  | false =>
    rw [pNewCells_no (by simp [sidesB, e0])]
    refine Calls.mono ?_ retCc_no
    go_enter Try.func52, Try.ntmps52
    go_wp2_with ((go_at_call 67; refine (within_any _ _ _ _).mono ?_; rintro e w' ⟨rfl, rfl⟩))
    refine bodyPost_ret (v := .tuple #[.agg #[.int .i64 0, .int .i64 0, .int .i64 0, .slice none 0 0], .bool false]) (by simp [results, Try.results52, go_sem]) rfl ⟨rfl, below_a1 _ _⟩
  | true =>
  cases e1 : inB a1 1 6 with
  | false =>
    rw [pNewCells_no (by simp [sidesB, e1])]
    refine Calls.mono ?_ retCc_no
    go_enter Try.func52, Try.ntmps52
    go_wp2_with ((go_at_call 67; refine (within_any _ _ _ _).mono ?_; rintro e w' ⟨rfl, rfl⟩))
    refine bodyPost_ret (v := .tuple #[.agg #[.int .i64 0, .int .i64 0, .int .i64 0, .slice none 0 0], .bool false]) (by simp [results, Try.results52, go_sem]) rfl ⟨rfl, below_a1 _ _⟩
  | true =>
  obtain ⟨hm0, hm1⟩ := mul_sides e0 e1
  obtain ⟨n, hn⟩ := Int.eq_ofNat_of_zero_le (show 0 ≤ a0 * a1 by omega)
  have hn1 : n ≤ 384 := by omega
  have ew : IntKind.i64.wrap (a0 * a1) = (n : Int) := by rw [hn, IntKind.wrap_i64]; omega
  have HV := hid (vCells_new (c := a2) e0 e1 hn.symm)
  have hmk := run_make_row' (P := Try.prog) 22 2 (.int .i64 0) 8 Try.underlying22 (by kernel_rfl) rfl .i64 .i64 n (by omega) (by omega)
  have HN := hid hn
  have hZ : RdL (Value.int .i64) ((w.alloc (.cells #[.int .i64 0, .int .i64 0, .int .i64 0, .slice none 0 0] 48)).alloc (.cells (madeCells #[.int .i64 0] n) 2)) (some ⟨w.heap.size + 1, 0, none⟩) (List.replicate n 0) := by
    refine Blk.rd0 ?_ (t := 2)
    rw [madeCells_one, List.map_replicate]
    exact Blk.new2 _ _ _ _
  have HZ := hid hZ
  have HO : Hid (OwnS (Value.int .i64) ((w.alloc (.cells #[.int .i64 0, .int .i64 0, .int .i64 0, .slice none 0 0] 48)).alloc (.cells (madeCells #[.int .i64 0] n) 2)) (w.heap.size + 1) 2 (some ⟨w.heap.size + 1, 0, none⟩) (List.replicate n 0)) := by
    refine OwnS.of_blk ?_ (by omega)
    rw [madeCells_one, List.map_replicate]
    exact Blk.new2 _ _ _ _
  have R0 := hid ((Blk.new w 48 [.int .i64 0, .int .i64 0, .int .i64 0, .slice none 0 0]).alloc (.cells (madeCells #[.int .i64 0] n) 2))
  have hw0 : ∀ y ∈ List.replicate n (0 : Int), W64 y := fun y hy => by
    obtain ⟨_, rfl⟩ := List.mem_replicate.1 hy
    exact w64_of_bounds (by omega)
  have HW := hid hw0
  clear hn hm0 hm1 hZ hw0
  cases e2 : inB a2 0 4294967295 with
  | false =>
    rw [pNewCells_no (by simp [sidesB, e2])]
    refine Calls.mono ?_ retCc_no
    go_enter Try.func52, Try.ntmps52
    go_wp2_with ((go_at_call 67; refine (within_any _ _ _ _).mono ?_; rintro e w' ⟨rfl, rfl⟩))
    refine (ifCells_no a0 a1 a2 _ n n (List.replicate n 0) _ h0 h1 h2 (by simp) HZ.out (by omega) HW.out (HV.out.trans e2)).mono ?_
    rintro e w1 ⟨rfl, hb⟩
    obtain ⟨d0, d1, d2, d3⟩ := (R0.out.below hb).cells4
    have f0 := (R0.out.below hb).frozen 0
    have f1 := (R0.out.below hb).frozen 1
    have f2 := (R0.out.below hb).frozen 2
    have f3 := (R0.out.below hb).frozen 3
    have S1 := below_call (below_a2 _ _ _) hb
    clear hb hmk ew
    go_wp2
    refine bodyPost_ret (v := .tuple #[.agg #[.int .i64 0, .int .i64 0, .int .i64 0, .slice none 0 0], .bool false]) (by simp [results, Try.results52, go_sem, d0, d1, d2, d3]) rfl ⟨rfl, ?_⟩
    exact (((S1.out.setCell (by simp) _).setCell (by simp) _).setCell (by simp) _).setCell (by simp) _
  | true =>
    rw [pNewCells_yes (by simp [sidesB, e0, e1, e2]), HN.out, Int.toNat_natCast]
    go_enter Try.func52, Try.ntmps52
    go_wp2_with ((go_at_call 67; refine (within_any _ _ _ _).mono ?_; rintro e w' ⟨rfl, rfl⟩))
    refine (ifCells_yes a0 a1 a2 _ n n (List.replicate n 0) _ h0 h1 h2 (by simp) HZ.out (by omega) HW.out (HV.out.trans e2)).mono ?_
    rintro e w1 ⟨rfl, hb⟩
    obtain ⟨d0, d1, d2, d3⟩ := (R0.out.below hb).cells4
    have f0 := (R0.out.below hb).frozen 0
    have f1 := (R0.out.below hb).frozen 1
    have f2 := (R0.out.below hb).frozen 2
    have f3 := (R0.out.below hb).frozen 3
    have O1 := hid (HO.out.below hb)
    have S1 := below_call (below_a2 _ _ _) hb
    clear hb hmk ew
    go_wp2
    refine bodyPost_ret (v := .tuple #[.agg #[.int .i64 a0, .int .i64 a1, .int .i64 a2, .slice (some ⟨w.heap.size + 1, 0, none⟩) n n], .bool true]) (by simp [results, Try.results52, go_sem, d0, d1, d2, d3]) rfl ⟨some ⟨w.heap.size + 1, 0, none⟩, n, by simp, ?_, by simp; omega, ?_, by simp, by omega⟩
    · exact ((((O1.out.setFar (by simp) _).setFar (by simp) _).setFar (by simp) _).setFar (by simp) _).mono (by omega)
    · exact (((S1.out.setCell (by simp) _).setCell (by simp) _).setCell (by simp) _).setCell (by simp) _

set_option maxHeartbeats 800000 in
theorem irow_big (wd dp s i n c b o : Nat) (w : World) (hw1 : 2 ≤ wd) (hw2 : wd ≤ 64) (hi : i < dp) (hd2 : dp ≤ 6) (hl : n = wd * dp) (hc : n ≤ c) (hc2 : c ≤ 9223372036854775807) :
    Calls Try.prog 79 #[.agg #[.int .i64 wd, .int .i64 dp, .int .i64 s, .slice (some ⟨b, o, none⟩) n c], .int .i64 i] w fun e w' => ∃ c', e = .returned (.slice (some ⟨b, o + i * wd, none⟩) wd c') ∧ wd ≤ c' ∧ Below w.heap.size w w' := by
  have hm := mul_le6 (show i ≤ 6 by omega) hw2
  have hm2 := mul_le6 (show i + 1 ≤ 6 by omega) hw2
  have h2 : (i + 1) * wd ≤ dp * wd := Nat.mul_le_mul_right wd hi
  rw [Nat.mul_comm dp wd, ← hl] at h2
  have e0 : ((i : Int) + 1) * (wd : Int) = (i : Int) * (wd : Int) + (wd : Int) := by rw [Int.add_mul, Int.one_mul]
  have ec : ((i * wd : Nat) : Int) = (i : Int) * (wd : Int) := Int.natCast_mul _ _
  have ed : (i + 1) * wd = i * wd + wd := by rw [Nat.add_mul, Nat.one_mul]
  have h5 : 0 ≤ (i : Int) * (wd : Int) + (wd : Int) ∧ (i : Int) * (wd : Int) + (wd : Int) ≤ (c : Int) := by rw [ed] at h2; omega
  have hne : ¬ c = i * wd := by rw [ed] at h2; omega
  have hlast : wd ≤ c - i * wd := by rw [ed] at h2; omega
  clear hl ed h2 hm2 ec
  go_enter Try.func79, Try.ntmps79
  go_wp2
  go_ret
  exact ⟨_, ret_slice (by omega), hlast, below_a1 _ _⟩

set_option maxRecDepth 100000 in
set_option maxHeartbeats 3200000 in
theorem iSignedNorm_big (a0 a1 a2 : Int) (A : Option Addr) (c : Nat) (x : List Int) (w : World) (h0 : W64 a0) (h1 : W64 a1) (h2 : W64 a2) (hx : RdL (Value.int .i64) w A x) (hn : x.length ≤ 1048576) (we : ∀ y ∈ x, W64 y) (hcap : x.length ≤ c) (hcap2 : c ≤ 9223372036854775807) :
    Calls Try.prog 32 #[.agg #[.int .i64 a0, .int .i64 a1, .int .i64 a2, .slice A x.length c]] w fun e w' => e = .returned (.tuple #[.int .i64 (pSignedNorm a0 a1 a2 x).1, .bool (pSignedNorm a0 a1 a2 x).2]) ∧ Below w.heap.size w w' := by
  have HX := hid (hx.below (below_a1 w (.cells #[.int .i64 a0, .int .i64 a1, .int .i64 a2, .slice A x.length c] 48)))
  have b0 := hid (Blk.new w 48 [.int .i64 a0, .int .i64 a1, .int .i64 a2, .slice A x.length c])
  have WE := hid we
  clear hx we
  cases hv : vCells a0 a1 a2 x with
  | false =>
    have hp : pSignedNorm a0 a1 a2 x = (0, false) := by simp [pSignedNorm, hv]
    rw [hp]
    clear hp
    go_enter Try.func32, Try.ntmps32
    go_wp2_with fail
    refine (iValidCells_any a0 a1 a2 A c x _ h0 h1 h2 HX.out hn WE.out).mono ?_
    rw [hv]
    rintro e w1 ⟨rfl, hb1⟩
    have S1 := hid hb1
    clear hb1
    go_wp2
    go_ret2
    exact ⟨rfl, ((below_a1 w (.cells #[.int .i64 a0, .int .i64 a1, .int .i64 a2, .slice A x.length c] 48)).trans (S1.out.mono (below_a1 w (.cells #[.int .i64 a0, .int .i64 a1, .int .i64 a2, .slice A x.length c] 48)).size))⟩
  | true =>
  cases hs : allB x (-1000000) 1000000 with
  | false =>
    have hp : pSignedNorm a0 a1 a2 x = (0, false) := by simp [pSignedNorm, hs]
    rw [hp]
    clear hp
    go_enter Try.func32, Try.ntmps32
    go_wp2_with fail
    refine (iValidCells_any a0 a1 a2 A c x _ h0 h1 h2 HX.out hn WE.out).mono ?_
    rw [hv]
    rintro e w1 ⟨rfl, hb1⟩
    have S1 := hid hb1
    clear hb1
    obtain ⟨k0, k1, k2, k3⟩ := (b0.out.below S1.out).cells4
    have hlw : w.heap.size < w1.heap.size := (b0.out.below S1.out).lt
    go_wp2_with fail
    refine (areSmall_any a0 a1 a2 A c x _ (HX.out.below S1.out) hn).mono ?_
    rw [hs]
    rintro e w2 ⟨rfl, hb2⟩
    have S2 := hid (S1.out.trans (hb2.mono S1.out.size))
    clear hb2 k0 k1 k2 k3 hlw S1
    have S1 := S2
    clear S2
    go_wp2
    go_ret2
    exact ⟨rfl, ((below_a1 w (.cells #[.int .i64 a0, .int .i64 a1, .int .i64 a2, .slice A x.length c] 48)).trans (S1.out.mono (below_a1 w (.cells #[.int .i64 a0, .int .i64 a1, .int .i64 a2, .slice A x.length c] 48)).size))⟩
  | true =>
    have hp : pSignedNorm a0 a1 a2 x = (medI (dotsL x x a0.toNat a1.toNat), true) := by simp [pSignedNorm, hv, hs]
    rw [hp]
    clear hp
    obtain ⟨⟨hw1, hw2⟩, ⟨hd1, hd2⟩, ⟨hs1, hs2⟩, hl, _⟩ := vCells_iff' hv
    have HV := hid hv
    have HS := hid hs
    have BX := hid (allB_iff hs)
    clear hv hs
    obtain ⟨wd, rfl⟩ := Int.eq_ofNat_of_zero_le (show 0 ≤ a0 by omega)
    obtain ⟨dp, rfl⟩ := Int.eq_ofNat_of_zero_le (show 0 ≤ a1 by omega)
    obtain ⟨s2, rfl⟩ := Int.eq_ofNat_of_zero_le hs1
    simp only [Int.toNat_natCast]
    have hlx : x.length = wd * dp := by rw [← Int.natCast_mul] at hl; omega
    have hlx4 : x.length ≤ 384 := by rw [hlx]; have := Nat.mul_le_mul (show wd ≤ 64 by omega) (show dp ≤ 6 by omega); omega
    have LX := hid hlx
    clear hl hlx
    go_enter Try.func32, Try.ntmps32
    go_wp2_with fail
    refine (iValidCells_any wd dp s2 A c x _ h0 h1 h2 HX.out hn WE.out).mono ?_
    rw [HV.out]
    rintro e w1 ⟨rfl, hb1⟩
    have S1 := hid hb1
    clear hb1
    obtain ⟨k0, k1, k2, k3⟩ := (b0.out.below S1.out).cells4
    have hlw : w.heap.size < w1.heap.size := (b0.out.below S1.out).lt
    go_wp2_with fail
    refine (areSmall_any wd dp s2 A c x _ (HX.out.below S1.out) hn).mono ?_
    rw [HS.out]
    rintro e w2 ⟨rfl, hb2⟩
    have S2 := hid (S1.out.trans (hb2.mono S1.out.size))
    clear hb2 k0 k1 k2 k3 hlw S1
    have S1 := S2
    clear S2
    have X1 := hid (HX.out.below S1.out)
    have Z1 := hid ((below_a1 w (.cells #[.int .i64 wd, .int .i64 dp, .int .i64 s2, .slice A x.length c] 48)).trans (S1.out.mono (below_a1 w (.cells #[.int .i64 wd, .int .i64 dp, .int .i64 s2, .slice A x.length c] 48)).size))
    have b1 := hid (b0.out.below S1.out)
    clear S1 b0 HX
    obtain ⟨k0, k1, k2, k3⟩ := b1.out.cells4
    have hlw : w.heap.size < w2.heap.size := b1.out.lt
    go_wp2
    clear k0 k1 k2 k3 hlw
    go_loopw [4, 20] (fun v i wr => ∃ k : Nat, k ≤ dp ∧ i = .int .i64 k ∧ Hid (OwnV wr w2.heap.size v (dotsL x x wd k)) ∧ Hid (Below w2.heap.size w2 wr)) (fun v i _ => dp - (intOf i).toNat)
    case atStart => exact ⟨0, Nat.zero_le _, rfl, OwnV.made _ (Nat.le_refl _), below_a1 _ _⟩
    case round =>
      obtain ⟨k, hkr, rfl, hO, hW⟩ := hrel
      have br := hid (b1.out.below hW.out)
      obtain ⟨k0, k1, k2, k3⟩ := br.out.cells4
      have hlr : w.heap.size < wr.heap.size := br.out.lt
      have hdl := dotsL_length x x wd k
      by_cases hlt : k < dp
      · have hi : (k : Int) < (dp : Int) := by omega
        have hR := hid (prodL_length (i := k) LX.out LX.out hlt)
        have hSB := hid (sum_bound (l := prodL x x wd k) (M := 1000000000000) (by omega) (prodL_bound BX.out BX.out))
        have hm := mul_le6 (show k ≤ 6 by omega) (show wd ≤ 64 by omega)
        have hwlen : k * wd + wd ≤ wd * dp := by
          have h2 : (k + 1) * wd ≤ dp * wd := Nat.mul_le_mul_right wd hlt
          rw [Nat.add_mul, Nat.mul_comm dp wd] at h2
          omega
        have hol : (dotsL x x wd k).length ≤ 1048577 := by omega
        obtain ⟨b, o, u0, hA0, hc0, hu0⟩ := X1.out.at_ (k := 0) (by rw [LX.out]; exact Nat.mul_pos (by omega) (by omega))
        subst hA0
        have XR := hid (X1.out.below hW.out)
        go_wp2_with fail
        refine (irow_big wd dp s2 k x.length c b o _ (by omega) (by omega) hlt (by omega) LX.out hcap (by omega)).mono ?_
        rintro e w3 ⟨cr, rfl, _, hb3⟩
        have XR3 := hid (rowL_rd (i := k) (wd := wd) (XR.out.below hb3))
        have O3 := hid (hO.out.below hb3)
        have W3 := hid (hW.out.trans (hb3.mono hW.out.size))
        have hrl := hid (rowL_length LX.out hlt)
        clear k0 k1 k2 k3 hlr br hb3 hc0 hu0 hO hW
        go_wp2
        go_loop [6, 27] (fun v j => ∃ q : Nat, q ≤ wd ∧ j = .int .i64 q ∧ ∃ s : Int, v = .int .i64 s ∧ Hid (((prodL x x wd k).take q).sum = s)) (fun v j => wd - (intOf j).toNat)
        case atStart => exact ⟨0, Nat.zero_le _, rfl, 0, rfl, by show ((prodL x x wd k).take 0).sum = 0; simp⟩
        case round =>
          obtain ⟨q, hqr, rfl, s, rfl, hh⟩ := hrel
          by_cases hlq : q < wd
          · have hi' : (q : Int) < (wd : Int) := by omega
            obtain ⟨b', o', u, hA', hcu, hun⟩ := XR3.out.at_ (k := q) (by rw [hrl.out]; omega)
            injection hA' with hA'; injection hA' with e1 e2
            subst e1 e2
            have hun2 : Hid (x[k * wd + q]? = some u) := by show _ = _; rw [← rowL_at hlq]; exact hun.out
            have he : Hid (((prodL x x wd k).take (q + 1)).sum = s + u * u) := by rw [sum_snoc (prodL_at hlq hun2 hun2), hh.out]; rfl
            have hub := BX.out u (List.mem_of_getElem? hun2.out)
            have hpb := mul_small hub hub
            have hzb := hSB.out q
            rw [hh.out] at hzb
            have e6 : IntKind.i64.wrap (u * u) = u * u := by rw [IntKind.wrap_i64]; omega
            have e7 : IntKind.i64.wrap (s + u * u) = s + u * u := by rw [IntKind.wrap_i64]; omega
            clear hun hun2
            go_wp2
            exact ⟨⟨q + 1, by omega, by go_num, _, rfl, he⟩, by simp [intOf]; omega⟩
          · have hi' : ¬ (q : Int) < (wd : Int) := by omega
            have hs := hh.out
            rw [List.take_of_length_le (by rw [hR.out]; omega)] at hs
            have HSs := hid hs
            clear hs
            go_wp2_with (at_builtin; refine app_int rfl _ _ rfl s O3.out W3.out rfl rfl hol W3.out.size ?_)
            intro v' w4 O4 W4 _ _
            have hd2 : dotsL x x wd k ++ [s] = dotsL x x wd (k + 1) := by rw [dotsL_succ, HSs.out]
            rw [hd2] at O4
            clear hd2
            go_wp2
            exact ⟨⟨k + 1, by omega, by go_num, O4, W4⟩, by simp [intOf]; omega⟩
      · have hi : ¬ (k : Int) < (dp : Int) := by omega
        obtain rfl : k = dp := by omega
        obtain ⟨A3, c3, rfl, hoS⟩ := hO.out.ownS
        obtain ⟨L, hL⟩ : ∃ L, L = dotsL x x wd k := ⟨_, rfl⟩
        rw [← hL] at hoS hdl ⊢
        have HDL := hid hdl
        clear hdl
        have C1 : Hid (Calls Try.prog 80 #[.slice A3 L.length c3] wr fun e w' => e = .returned (.int .i64 (medI L)) ∧ Below wr.heap.size wr w') := medianI_any A3 c3 L _ hoS.rd (by have := HDL.out; omega) (by have := HDL.out; omega)
        have Z2 := hid (Z1.out.trans (hW.out.mono Z1.out.size))
        have HL2 := hid hL
        clear hoS hO hL hW
        go_wp2_with (go_at_call 80; with_reducible refine C1.out.mono ?_; rintro e w5 ⟨rfl, hb5⟩)
        go_ret2
        rw [← HL2.out]
        exact ⟨rfl, Z2.out.trans (hb5.mono Z2.out.size)⟩

end Go.Proofs.Ytbodfepfapjikaa
