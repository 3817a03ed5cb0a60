/-
  JumpHome: by contract. (math.Floor by the model's own entry.)
-/
import Derived.Test.YtbodfepfapjikaaFloat4
import Derived.Test.YtbodfepfapjikaaHomesC
import Derived.Laws.Externs
import Derived.Deep.Cut
namespace Go.Proofs.Ytbodfepfapjikaa
open Go.RowKit Ieee
set_option linter.unusedVariables false
set_option linter.unusedSimpArgs false

def qB (y : Nat) : Nat := (floatBits .quo .f64 4746794007248502784 (floatOfInt .f64 (y : Int))).getD 0
def rB (b y : Nat) : Nat := (floatBits .mul .f64 (floatOfInt .f64 ((b : Int) + 1)) (qB y)).getD 0
theorem qB_spec {y : Nat} (h1 : 1 ≤ y) (h2 : y ≤ 2147483648) : floatBits .quo .f64 4746794007248502784 (floatOfInt .f64 (y : Int)) = some (qB y) ∧ GB (qB y) 1 2147483648 := by
  obtain ⟨r, hr, hg⟩ := quo_gb (ofInt_gb h1 (by omega)) h1 h2
  unfold qB
  rw [hr]
  exact ⟨rfl, hg⟩
theorem rB_spec {b y : Nat} (hb : b < 1000000) (h1 : 1 ≤ y) (h2 : y ≤ 2147483648) : floatBits .mul .f64 (floatOfInt .f64 ((b : Int) + 1)) (qB y) = some (rB b y) ∧ GB (rB b y) (b + 1) ((b + 1) * 2147483648) := by
  have hq := (qB_spec h1 h2).2
  have ha : GB (floatOfInt .f64 ((b : Int) + 1)) (b + 1) (b + 1) := by
    have := ofInt_gb (n := b + 1) (by omega) (by omega)
    rwa [show ((b + 1 : Nat) : Int) = (b : Int) + 1 by omega] at this
  obtain ⟨r, hr, hg⟩ := mul_gb ha hq (by omega) (by omega) (fun m e h => by have := ha.exp (by omega) m e h; omega) (fun m e h => by have := hq.exp (by omega) m e h; omega)
  unfold rB
  rw [hr]
  refine ⟨rfl, ?_⟩
  rw [Nat.mul_one] at hg
  exact hg
/-- The next number of the sequence, and the next place. -/
def nextX (x : Nat) : Nat := (x * 2862933555777941757 + 1) % 18446744073709551616
def jmpF (b x : Nat) : Nat := floorN (rB b (x / 8589934592 + 1))
theorem jmp_spec {b x : Nat} (hb : b < 1000000) (hx : x < 18446744073709551616) : b < jmpF b x ∧ jmpF b x < 2 ^ 52 ∧ floatToIntVal .f64 (floorW (rB b (x / 8589934592 + 1))) .i64 = some (jmpF b x : Int) ∧ ∃ m e, double.read (rB b (x / 8589934592 + 1)) = .number false m e := by
  have hr := (rB_spec (y := x / 8589934592 + 1) hb (by omega) (by omega)).2
  obtain ⟨h1, h2, h3⟩ := floor_gb hr (by omega) (by omega)
  have hb2 : jmpF b x < 2 ^ 52 := by
    have : jmpF b x ≤ (b + 1) * 2147483648 := h2
    omega
  refine ⟨h1, hb2, toInt_gb h3 hb2, ?_⟩
  obtain ⟨m, e, h, _⟩ := hr
  exact ⟨m, e, h⟩
theorem Try.findFloor : Extern.find Try.f135 = some (Extern.MathFloor.toIntegral "math.archFloor" .down) := by kernel_rfl
theorem toIntegral_number (nm : String) (x m : Nat) (e : Int) (h : FloatKind.f64.decode x = .number false m e) (w : World) : (Extern.MathFloor.toIntegral nm .down #[.float .f64 x]).run Try.prog w = .ok (.float .f64 (FloatKind.f64.encode ((Datum.number false m e).integral .down))) w := by
  generalize hd : FloatKind.f64.decode x = d at h
  subst h
  have key : ∀ d : Datum, FloatKind.f64.decode x = d → (∃ m e, d = .number false m e) → (Extern.MathFloor.toIntegral nm .down #[.float .f64 x]).run Try.prog w = .ok (.float .f64 (FloatKind.f64.encode (d.integral .down))) w := by
    rintro d hd ⟨m, e, rfl⟩
    change Sem.run Try.prog (Extern.MathFloor.toIntegral.match_1 (fun _ => Sem Value) (FloatKind.f64.decode x) _ _) w = _
    rw [hd]
    rfl
  exact key _ hd ⟨_, _, rfl⟩
theorem archFloor_run (x : Nat) (w : World) (hx : ∃ m e, double.read x = .number false m e) : (callFunc 135 #[.float .f64 x]).run Try.prog w = .ok (.value (.float .f64 (floorW x))) w := by
  rw [run_callFunc_extern Try.func135 (by kernel_rfl) (by kernel_rfl) (by kernel_rfl) Try.findFloor]
  obtain ⟨m, e, h⟩ := hx
  have hd : FloatKind.f64.decode x = .number false m e := h
  have hw : FloatKind.f64.encode ((Datum.number false m e).integral .down) = floorW x := by unfold floorW; rw [h]; rfl
  rw [toIntegral_number _ x m e hd w, hw]
  rfl
theorem Floor_any (x : Nat) (w : World) (hx : ∃ m e, double.read x = .number false m e) :
    Calls Try.prog 100 #[.float .f64 x] w fun e w' => e = .returned (.float .f64 (floorW x)) ∧ w = w' := by
  have hf := fun w => archFloor_run x w hx
  clear hx
  go_enter Try.func100, Try.ntmps100
  go_wp2
  go_ret
  exact ⟨rfl, rfl⟩
def jx (key : Nat) : Nat → Nat
  | 0 => key
  | i + 1 => nextX (jx key i)
def jj (key : Nat) : Nat → Nat
  | 0 => 0
  | i + 1 => jmpF (jj key i) (jx key (i + 1))
theorem jx_succ (key i : Nat) : jx key (i + 1) = nextX (jx key i) := by rw [jx]
theorem jj_succ (key i : Nat) : jj key (i + 1) = jmpF (jj key i) (jx key (i + 1)) := by rw [jj]
theorem jx_zero (key : Nat) : jx key 0 = key := by rw [jx]
theorem jj_zero (key : Nat) : jj key 0 = 0 := by rw [jj]
theorem jx_lt {key : Nat} (hk : key < 4294967296) (i : Nat) : jx key i < 18446744073709551616 := by
  cases i with
  | zero => rw [jx_zero]; omega
  | succ i => rw [jx_succ]; unfold nextX; exact Nat.mod_lt _ (by omega)
theorem run_fdiv (t : TypeId) (y : Nat) (w : World) (h1 : 1 ≤ y) (h2 : y ≤ 2147483648) : (binOp .quo t (.float .f64 4746794007248502784) (.float .f64 (floatOfInt .f64 (y : Int)))).run Try.prog w = .ok (.float .f64 (qB y)) w :=
  run_float_arith w .quo t .f64 _ _ _ (qB_spec h1 h2).1
set_option maxHeartbeats 1600000 in
theorem JumpHome_any (key n : Nat) (w : World) (hk : key < 4294967296) (h1 : 1 ≤ n) (h2 : n ≤ 1000000) :
    Calls Try.prog 47 #[.int .i64 key, .int .i64 n] w fun e w' => (∃ k, e = .returned (.tuple #[.int .i64 (jj key k), .bool true]) ∧ (∀ m, m ≤ k → jj key m < n) ∧ n ≤ jj key (k + 1)) ∧ w = w' := by
  have e1 : inB (key : Int) 0 4294967295 = true := inB_iff.2 (by omega)
  have e2 : inB (n : Int) 1 1000000 = true := inB_iff.2 (by omega)
  go_enter Try.func47, Try.ntmps47
  go_wp2_with (first | (go_at_call 72; refine (IsKey_any _ _).mono ?_; rintro e w' ⟨rfl, rfl⟩) | (go_at_call 67; refine (within_any _ _ _ _).mono ?_; rintro e w' ⟨rfl, rfl⟩))
  go_loop [6, 7, 8] (fun x b j => ∃ (i : Nat) (p : Int), x = .int .u64 (jx key i) ∧ b = .int .i64 p ∧ j = .int .i64 (jj key i) ∧ Hid ((i = 0 ∨ ∃ k, i = k + 1 ∧ p = (jj key k : Int)) ∧ ∀ m, m < i → jj key m < n)) (fun _ _ j => n - (intOf j).toNat)
  case atStart => exact ⟨0, -1, by rw [jx_zero], rfl, by rw [jj_zero]; rfl, ⟨.inl rfl, fun m h => by omega⟩⟩
  case round =>
    obtain ⟨i, p, rfl, rfl, rfl, hh⟩ := hrel
    by_cases hlt : jj key i < n
    · have hi : (jj key i : Int) < (n : Int) := by omega
      obtain ⟨b, hb⟩ : ∃ b, b = jj key i := ⟨_, rfl⟩
      obtain ⟨x, hx⟩ : ∃ x, x = jx key i := ⟨_, rfl⟩
      rw [← hb] at hi hlt ⊢
      rw [← hx]
      have HBX := hid (And.intro hb hx)
      clear hb hx
      go_upto_region 8 with (fail)
      have hx' : IntKind.u64.wrap (IntKind.u64.wrap ((x : Int) * 2862933555777941757) + 1) = ((nextX x : Nat) : Int) := by
        unfold nextX
        rw [IntKind.wrap_u64, IntKind.wrap_u64]
        omega
      rw [hx']
      clear hx'
      have hyl : nextX x < 18446744073709551616 := Nat.mod_lt _ (by omega)
      obtain ⟨y, hy⟩ : ∃ y, y = nextX x := ⟨_, rfl⟩
      rw [← hy] at hyl ⊢
      have HY := hid hy
      have hb6 : b < 1000000 := by omega
      obtain ⟨j1, j2, j3, j4⟩ := jmp_spec hb6 hyl
      have hz : ((y / 8589934592 + 1 : Nat) : Int) = (y : Int) / 8589934592 + 1 := by omega
      have hq : ∀ t w, (binOp .quo t (.float .f64 4746794007248502784) (.float .f64 (floatOfInt .f64 ((y : Int) / 8589934592 + 1)))).run Try.prog w = .ok (.float .f64 (qB (y / 8589934592 + 1))) w := fun t w => by
        rw [← hz]; exact run_fdiv t _ w (by omega) (by omega)
      have hm : ∀ t w, (binOp .mul t (.float .f64 (floatOfInt .f64 ((b : Int) + 1))) (.float .f64 (qB (y / 8589934592 + 1)))).run Try.prog w = .ok (.float .f64 (rB b (y / 8589934592 + 1))) w := fun t w => run_float_arith w .mul t .f64 _ _ _ (rB_spec hb6 (by omega) (by omega)).1
      have hc : ∀ w, (convert 58 2 (.float .f64 (floorW (rB b (y / 8589934592 + 1))))).run Try.prog w = .ok (.int .i64 (jmpF b y)) w := fun w => run_convert_float_int w _ _ .f64 .i64 _ _ (by rw [Try.underlying58]; rfl) Try.underlying2 j3
      have HF := hid (fun w => Floor_any (rB b (y / 8589934592 + 1)) w j4)
      clear j3 j4 hz hy
      go_wp2_with (first | simp only [hq] | simp only [hm] | simp only [hc] | (go_at_call 100; refine (HF.out _).mono ?_; rintro e w' ⟨rfl, rfl⟩))
      obtain ⟨hb0, hx0⟩ := HBX.out
      have ey : jx key (i + 1) = y := by rw [jx_succ, HY.out, hx0]
      have ej : jj key (i + 1) = jmpF b y := by
        rw [jj_succ, ey, ← hb0]
      refine ⟨⟨i + 1, b, ?_, ?_, ?_, ?_⟩, ?_⟩
      case refine_1 => rw [ey]
      case refine_2 => rfl
      case refine_3 => rw [ej]
      case refine_4 =>
        refine ⟨.inr ⟨i, rfl, by rw [hb0]⟩, fun m hm => ?_⟩
        rcases Nat.lt_or_ge m i with h | h
        · exact hh.out.2 m h
        · obtain rfl : m = i := by omega
          rw [← hb0]; exact hlt
      case refine_5 =>
        clear j2 hq hm hc HF hyl ey ej
        show n - ((jmpF b y : Nat) : Int).toNat < n - ((b : Nat) : Int).toNat
        rw [Int.toNat_natCast, Int.toNat_natCast]
        omega
    · have hi : ¬ (jj key i : Int) < (n : Int) := by omega
      go_wp2
      go_ret2
      obtain ⟨h0, hall⟩ := hh.out
      rcases h0 with rfl | ⟨k, rfl, rfl⟩
      · exfalso
        have := jj_zero key
        omega
      · exact ⟨⟨k, rfl, fun m hm => hall m (by omega), by omega⟩, rfl⟩
/-- The places of a key among n and n + 1; the first is 0. -/
theorem jj_lt {key : Nat} (hk : key < 4294967296) {i : Nat} (h : jj key i < 1000000) : jj key i < jj key (i + 1) := (jmp_spec h (jx_lt hk (i + 1))).1
theorem jump_next {key n i k : Nat} (hk : key < 4294967296) (hn : n < 1000000) (h1 : ∀ m, m ≤ i → jj key m < n) (h2 : n ≤ jj key (i + 1)) (h3 : ∀ m, m ≤ k → jj key m < n + 1) (h4 : n + 1 ≤ jj key (k + 1)) : jj key k = jj key i ∨ jj key k = n := by
  rcases Nat.lt_trichotomy k i with h | rfl | h
  · have := h1 (k + 1) (by omega); omega
  · exact .inl rfl
  · have h5 := h3 (i + 1) (by omega)
    have h6 : jj key (i + 1) = n := by omega
    rcases Nat.lt_or_ge (i + 1) k with h7 | h7
    · have h8 := h3 (i + 1 + 1) (by omega)
      have h9 := jj_lt hk (i := i + 1) (by omega)
      omega
    · obtain rfl : k = i + 1 := by omega
      exact .inr h6
end Go.Proofs.Ytbodfepfapjikaa
