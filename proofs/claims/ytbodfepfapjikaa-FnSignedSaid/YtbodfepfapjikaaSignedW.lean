/-
  Signed cells of small sides: the contracts that the law FnSigned asks.
-/
import Derived.Test.YtbodfepfapjikaaSignedC
import Derived.Test.YtbodfepfapjikaaSignedP
import Derived.Test.YtbodfepfapjikaaCorI
import Derived.Test.YtbodfepfapjikaaSame
import Derived.Test.YtbodfepfapjikaaB10
namespace Go.Proofs.Ytbodfepfapjikaa
open Go.RowKit
set_option linter.unusedVariables false
set_option linter.unusedSimpArgs false

/-- Sides and a salt of cells. -/
def Sd (wd dp s : Nat) : Prop := 2 ≤ wd ∧ wd ≤ 13 ∧ 1 ≤ dp ∧ dp ≤ 5 ∧ s ≤ 20000
/-- Small numbers. -/
def Sm (x : List Int) (M : Int) : Prop := ∀ y ∈ x, -M ≤ y ∧ y ≤ M
/-- Cells of the call's own, and yes. -/
def RetS (wd dp s n : Nat) (M : Nat) (X : List Int) (w : World) (e : Ending) (w' : World) : Prop :=
  ∃ A c, e = .returned (.tuple #[.agg #[.int .i64 wd, .int .i64 dp, .int .i64 s, .slice A n c], .bool true]) ∧ OwnS (Value.int .i64) w' w.heap.size 2 A X ∧ Below w.heap.size w w' ∧ n ≤ c ∧ c ≤ M
theorem w64_s {z : Int} (h : -1000000000000 ≤ z ∧ z ≤ 1000000000000) : W64 z := w64_of_bounds (by omega)
theorem Sd.w {wd dp s : Nat} (h : Sd wd dp s) : W64 (wd : Int) ∧ W64 (dp : Int) ∧ W64 (s : Int) := by
  obtain ⟨h1, h2, h3, h4, h5⟩ := h
  exact ⟨w64_s (by omega), w64_s (by omega), w64_s (by omega)⟩
theorem Sd.n {wd dp s : Nat} (h : Sd wd dp s) : 0 < wd * dp ∧ wd * dp ≤ 65 := by
  obtain ⟨h1, h2, h3, h4, h5⟩ := h
  exact ⟨Nat.mul_pos (by omega) (by omega), Nat.mul_le_mul h2 h4⟩
theorem Sd.v {wd dp s : Nat} {x : List Int} {M : Int} (h : Sd wd dp s) (hl : x.length = wd * dp) (hM : M ≤ 1000000) (hx : Sm x M) : vCells wd dp s x = true := by
  obtain ⟨h1, h2, h3, h4, h5⟩ := h
  exact vCells_mk h1 (by omega) h3 (by omega) (by omega) hl (fun y hy => by have := hx y hy; omega)
theorem Sm.w {x : List Int} {M : Int} (hM : M ≤ 1000000) (hx : Sm x M) : ∀ y ∈ x, W64 y := fun y hy => w64_s (by have := hx y hy; omega)
theorem sm_zeros (n : Nat) : Sm (List.replicate n 0) 0 := fun y hy => by rw [(List.mem_replicate.1 hy).2]; omega
theorem sm_put {wd dp s : Nat} {x : List Int} {key : Nat} {by_ M : Int} (h : Sd wd dp s) (hM : 0 ≤ M) (hb : -100 ≤ by_ ∧ by_ ≤ 100) (hx : Sm x M) : Sm (putC wd dp s x key by_) (M + 600) := putC_bound hM (by have := h.2.2.2.1; omega) hb hx
theorem giveP_yes {a0 a1 a2 : Int} {x : List Int} (h : vCells a0 a1 a2 x = true) : giveP a0 a1 a2 x = ((a0, a1, a2, x), true) := by rw [giveP, if_pos h]
theorem newS {wd dp s : Nat} (h : Sd wd dp s) (w : World) : Calls Try.prog 52 #[.int .i64 wd, .int .i64 dp, .int .i64 s] w (RetS wd dp s (wd * dp) 1048576 (List.replicate (wd * dp) 0) w) := by
  obtain ⟨w0, w1, w2⟩ := h.w
  have hc := iNewCells_cap wd dp s w w0 w1 w2
  have hsd : sidesB (wd : Int) dp s = true := by
    obtain ⟨h1, h2, h3, h4, h5⟩ := h
    simp only [sidesB, Bool.and_eq_true, inB_iff]
    omega
  rw [pNewCells_yes hsd, show ((wd : Int) * (dp : Int)).toNat = wd * dp by rw [← Int.natCast_mul]; rfl] at hc
  refine hc.mono ?_
  rintro e w' ⟨A, c, rfl, ho, _, hb, h1, h2⟩
  have hl : (List.replicate (wd * dp) (0 : Int)).length = wd * dp := by simp
  simp only [hl] at h1 ⊢
  exact ⟨A, c, rfl, ho, hb, h1, h2⟩
theorem putS {wd dp s : Nat} (h : Sd wd dp s) {A : Option Addr} {c : Nat} {x : List Int} {M : Int} (w : World) (hx : RdL (Value.int .i64) w A x) (hl : x.length = wd * dp) (hM0 : 0 ≤ M) (hM : M ≤ 100000) (hb : Sm x M) (key : Nat) (hk : key ≤ 255) (by_ : Int) (hby : -100 ≤ by_ ∧ by_ ≤ 100) :
    Calls Try.prog 54 #[.agg #[.int .i64 wd, .int .i64 dp, .int .i64 s, .slice A (wd * dp : Nat) c], .int .i64 key, .int .i64 by_] w (RetS wd dp s (wd * dp) 9223372036854775807 (putC wd dp s x key by_) w) := by
  obtain ⟨w0, w1, w2⟩ := h.w
  have hn := h.n
  have hc := iPutSigned_cap wd dp s A c x key by_ w w0 w1 w2 hx (by omega) (hb.w (by omega)) (w64_s (by omega)) (w64_s (by omega))
  have hv := h.v hl (by omega) hb
  have hv2 := h.v (x := putC wd dp s x key by_) (by rw [putC_length]; exact hl) (by omega) (sm_put h hM0 hby hb)
  have hp : pPutSigned wd dp s x key by_ = (((wd : Int), (dp : Int), (s : Int), putC wd dp s x key by_), true) := by
    unfold pPutSigned
    rw [hv, inB_iff.2 (show (0 : Int) ≤ (key : Int) ∧ (key : Int) ≤ 4294967295 by omega), inB_iff.2 (show (-1000000 : Int) ≤ by_ ∧ by_ ≤ 1000000 by omega), if_pos (by decide)]
    exact giveP_yes hv2
  rw [hp] at hc
  rw [hl] at hc
  refine hc.mono ?_
  rintro e w' ⟨A', c', rfl, ho, _, hb', h1, h2⟩
  have hl2 : (putC wd dp s x key by_).length = wd * dp := by rw [putC_length]; exact hl
  simp only [hl2] at h1 ⊢
  exact ⟨A', c', rfl, ho, hb', h1, h2⟩
theorem toldS {wd dp s : Nat} (h : Sd wd dp s) {A : Option Addr} {c : Nat} (key : Nat) (hk : key ≤ 255) (by_ : Int) (hby : -100 ≤ by_ ∧ by_ ≤ 100) (w : World) (hx : RdL (Value.int .i64) w A (oneC wd dp s key by_)) :
    Calls Try.prog 35 #[.agg #[.int .i64 wd, .int .i64 dp, .int .i64 s, .slice A (wd * dp : Nat) c], .int .i64 key] w fun e w' => e = .returned (.tuple #[.int .i64 by_, .bool true]) ∧ Below w.heap.size w w' := by
  obtain ⟨w0, w1, w2⟩ := h.w
  have hn := h.n
  have hs : Sm (oneC wd dp s key by_) (0 + 600) := sm_put h (by omega) hby (sm_zeros _)
  have hc := iSignedAt_any wd dp s A c (oneC wd dp s key by_) key w w0 w1 w2 hx (by rw [oneC_length]; omega) (hs.w (by omega)) (w64_s (by omega))
  have hp : pSignedAt wd dp s (oneC wd dp s key by_) key = (by_, true) := by
    unfold pSignedAt
    rw [h.v (oneC_length _ _ _ _ _) (by omega) hs, inB_iff.2 (show (0 : Int) ≤ (key : Int) ∧ (key : Int) ≤ 4294967295 by omega), if_pos (by decide)]
    simp only [Int.toNat_natCast]
    rw [told_one (by have := h.1; omega) (by have := h.2.2.1; omega)]
  rw [hp, oneC_length] at hc
  exact hc
theorem normS {wd dp s : Nat} (h : Sd wd dp s) {A : Option Addr} {c : Nat} (hc1 : wd * dp ≤ c) (hc2 : c ≤ 9223372036854775807) (key : Nat) (by_ : Int) (hby : -100 ≤ by_ ∧ by_ ≤ 100) (w : World) (hx : RdL (Value.int .i64) w A (oneC wd dp s key by_)) :
    Calls Try.prog 32 #[.agg #[.int .i64 wd, .int .i64 dp, .int .i64 s, .slice A (wd * dp : Nat) c]] w fun e w' => e = .returned (.tuple #[.int .i64 (by_ * by_), .bool true]) ∧ Below w.heap.size w w' := by
  obtain ⟨w0, w1, w2⟩ := h.w
  have hn := h.n
  have hs : Sm (oneC wd dp s key by_) (0 + 600) := sm_put h (by omega) hby (sm_zeros _)
  have hc := iSignedNorm_big wd dp s A c (oneC wd dp s key by_) w w0 w1 w2 hx (by rw [oneC_length]; omega) (hs.w (by omega)) (by rw [oneC_length]; exact hc1) hc2
  have ha : allB (oneC wd dp s key by_) (-1000000) 1000000 = true := by
    unfold allB
    rw [List.all_eq_true]
    intro y hy
    have := hs y hy
    exact inB_iff.2 (by omega)
  have hp : pSignedNorm wd dp s (oneC wd dp s key by_) = (by_ * by_, true) := by
    unfold pSignedNorm
    rw [h.v (oneC_length _ _ _ _ _) (by omega) hs, ha, if_pos (by decide)]
    simp only [Int.toNat_natCast]
    rw [norm_one (by have := h.1; omega) (by have := h.2.2.1; omega)]
  rw [hp, oneC_length] at hc
  exact hc
theorem corS {wd dp s : Nat} (h : Sd wd dp s) {A : Option Addr} {c : Nat} (hc1 : wd * dp ≤ c) (hc2 : c ≤ 1048576) (key : Nat) (hk : key ≤ 255) (w : World) (hx : RdL (Value.int .i64) w A (List.replicate (wd * dp) 0)) :
    Calls Try.prog 37 #[.agg #[.int .i64 wd, .int .i64 dp, .int .i64 s, .slice A (wd * dp : Nat) c], .int .i64 key] w fun e w' => e = .returned (.tuple #[.float .f32 0, .bool true]) ∧ Below w.heap.size w w' := by
  obtain ⟨w0, w1, w2⟩ := h.w
  have hn := h.n
  have hl : (List.replicate (wd * dp) (0 : Int)).length = wd * dp := by simp
  have hc := iCorrectedAt_any wd dp s A c (List.replicate (wd * dp) 0) key w w0 w1 w2 hx (by rw [hl]; omega) ((sm_zeros _).w (by omega)) (w64_s (by omega)) (by rw [hl]; exact hc1) hc2
  have hp : pCorrectedAt wd dp s (List.replicate (wd * dp) 0) key = (0, true) := by
    unfold pCorrectedAt
    rw [h.v hl (by omega) (sm_zeros _), inB_iff.2 (show (0 : Int) ≤ (key : Int) ∧ (key : Int) ≤ 4294967295 by omega), if_pos (by decide)]
    simp only [Int.toNat_natCast]
    rw [cor_zero h.1 h.2.1 (by have := h.2.2.1; omega)]
  rw [hp, hl] at hc
  exact hc
theorem mergeS {wd dp s : Nat} (h : Sd wd dp s) {A B : Option Addr} {c c' : Nat} {x y d : List Int} {M : Int} (hM : M ≤ 100000) (hx : Sm x M) (hy : Sm y M) (hd : Sm d M) (hlx : x.length = wd * dp) (hly : y.length = wd * dp) (hld : d.length = wd * dp) (hz : List.zipWith (fun a b => a + b) x y = d) (w : World) (rx : RdL (Value.int .i64) w A x) (ry : RdL (Value.int .i64) w B y) :
    Calls Try.prog 58 #[.agg #[.int .i64 wd, .int .i64 dp, .int .i64 s, .slice A (wd * dp : Nat) c], .agg #[.int .i64 wd, .int .i64 dp, .int .i64 s, .slice B (wd * dp : Nat) c']] w fun e w' => ∃ C k, e = .returned (.tuple #[.agg #[.int .i64 wd, .int .i64 dp, .int .i64 s, .slice C (wd * dp : Nat) k], .bool true]) ∧ OwnS (Value.int .i64) w' w.heap.size 2 C d ∧ Below w.heap.size w w' := by
  obtain ⟨w0, w1, w2⟩ := h.w
  have hn := h.n
  have hc := iMergeCells_any wd dp s A c x wd dp s B c' y w w0 w1 w2 rx (by omega) (hx.w (by omega)) w0 w1 w2 ry (by omega) (hy.w (by omega))
  have ha : alikeC (wd : Int) dp s x wd dp s y = true := by
    unfold alikeC
    rw [h.v hlx (by omega) hx, h.v hly (by omega) hy]
    simp
  rw [pMergeCells_yes ha, hz, giveP_yes (h.v hld (by omega) hd), hlx, hly] at hc
  refine hc.mono ?_
  rintro e w' ⟨C, k, rfl, ho, _, hb⟩
  simp only [hld]
  exact ⟨C, k, rfl, ho, hb⟩
theorem sameS {wd dp s : Nat} (h : Sd wd dp s) {A B : Option Addr} {c c' : Nat} {x : List Int} {M : Int} (hM : M ≤ 100000) (hx : Sm x M) (hlx : x.length = wd * dp) (w : World) (rx : RdL (Value.int .i64) w A x) (ry : RdL (Value.int .i64) w B x) :
    Calls Try.prog 55 #[.agg #[.int .i64 wd, .int .i64 dp, .int .i64 s, .slice A (wd * dp : Nat) c], .agg #[.int .i64 wd, .int .i64 dp, .int .i64 s, .slice B (wd * dp : Nat) c']] w fun e w' => e = .returned (.bool true) ∧ Below w.heap.size w w' := by
  obtain ⟨w0, w1, w2⟩ := h.w
  have hn := h.n
  have hc := iSameCells_any wd dp s A c x wd dp s B c' x w w0 w1 w2 rx (by omega) (hx.w (by omega)) w0 w1 w2 ry (by omega) (hx.w (by omega))
  rw [hlx] at hc
  simpa [sameCells] using hc
theorem intsS {A B : Option Addr} {c c' n : Nat} {x : List Int} (hlx : x.length = n) (hn : n ≤ 65) (w : World) (rx : RdL (Value.int .i64) w A x) (ry : RdL (Value.int .i64) w B x) :
    Calls Try.prog 56 #[.slice A n c, .slice B n c'] w fun e w' => e = .returned (.bool true) ∧ Below w.heap.size w w' := by
  subst hlx
  refine (b10Ints_yes A B c c' x w rx ry (by omega)).mono ?_
  rintro e w' ⟨rfl, nn, rfl⟩
  exact ⟨rfl, below_drewN (Below.refl _ _) _⟩
end Go.Proofs.Ytbodfepfapjikaa
