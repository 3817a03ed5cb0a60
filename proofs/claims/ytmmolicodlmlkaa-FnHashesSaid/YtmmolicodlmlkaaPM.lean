/-
  Parts of the proof: FnHashes: its greatest region. FnHashes, alone: behind the calls of HashRows and RowsShared, to its end. FnHashes beside leavers: the functions of its tail. FnHashes beside leavers: its gate, its tail; one good run. No condition.
-/
import Derived.Test.YtmmolicodlmlkaaPL
import Derived.Test.YtmmolicodlmlkaaPJ
import Derived.Test.YtmmolicodlmlkaaPG
set_option linter.unusedVariables false
set_option linter.unusedSimpArgs false
namespace Go.Proofs.Ytmmolicodlmlkaa.Ph
open Go.Conc Go.ConcN Go.RowKit
open Go.Proofs.Ytmmolicodlmlkaa.Rel
set_option linter.unusedVariables false
set_option linter.unusedSimpArgs false

/-- The operations of a region. -/
def findReg (id : Nat) : Code → Option (Array Oper)
  | .region j ops _ => if j = id then some ops else none
  | .seq a b => match findReg id a with
    | some ops => some ops
    | none => findReg id b
  | .cond _ a b => match findReg id a with
    | some ops => some ops
    | none => findReg id b
  | .block _ a | .loop a | .scope a => findReg id a
  | _ => none
noncomputable def r31 : Array Oper := (findReg 31 hbody).getD #[]
theorem r31_sel : Region.noSelect r31 = true := by kernel_rfl
theorem r31_lex : lexOk r31 0 r31.toList = true := by kernel_rfl
theorem wp_code_eq {P : Program} {Q : Exit → Act → World → Prop} {a : Act} {w : World} {c c' : Code} (h : c' = c) (h2 : c.wp P Q a w) : c'.wp P Q a w := h ▸ h2
abbrev arrQ (T : Nat → Value) (v5 v8 v10 v12 v13 v14 v16 v19 v28 v29 v30 v31 v32 v33 v34 v35 v36 v37 v38 : Value) : Array Value := #[T 0, T 1, T 2, T 3, T 4, v5, T 6, T 7, v8, T 9, v10, T 11, v12, v13, v14, T 15, v16, T 17, T 18, v19, T 20, T 21, T 22, T 23, T 24, T 25, T 26, T 27, v28, v29, v30, v31, v32, v33, v34, v35, v36, v37, v38, T 39, T 40, T 41, T 42, T 43, T 44, T 45, T 46, T 47, T 48, T 49, T 50, T 51, T 52, T 53, T 54, T 55, T 56, T 57, T 58, T 59, T 60, T 61, T 62, T 63, T 64, T 65, T 66, T 67, T 68, T 69, T 70, T 71, T 72, T 73, T 74, T 75, T 76, T 77, T 78, T 79, T 80, T 81, T 82, T 83, T 84, T 85, T 86, T 87, T 88, T 89, T 90, T 91, T 92, T 93, T 94, T 95, T 96, T 97, T 98, T 99, T 100, T 101, T 102, T 103, T 104, T 105, T 106, T 107, T 108, T 109, T 110, T 111, T 112, T 113, T 114, T 115, T 116, T 117, T 118, T 119, T 120, T 121, T 122, T 123, T 124, T 125, T 126, T 127, T 128, T 129, T 130, T 131, T 132, T 133, T 134, T 135, T 136, T 137, T 138, T 139, T 140, T 141, T 142, T 143, T 144, T 145, T 146, T 147, T 148, T 149, T 150, T 151, T 152, T 153, T 154, T 155, T 156, T 157, T 158, T 159, T 160, T 161, T 162, T 163, T 164, T 165, T 166, T 167, T 168, T 169, T 170, T 171, T 172, T 173, T 174, T 175, T 176, T 177, T 178, T 179, T 180, T 181, T 182, T 183, T 184, T 185, T 186, T 187, T 188, T 189, T 190, T 191, T 192, T 193, T 194, T 195, T 196, T 197, T 198, T 199, T 200, T 201, T 202, T 203, T 204, T 205, T 206, T 207, T 208, T 209, T 210, T 211, T 212, T 213, T 214, T 215, T 216, T 217, T 218, T 219, T 220, T 221, T 222, T 223, T 224, T 225, T 226, T 227, T 228, T 229, T 230, T 231, T 232, T 233, T 234, T 235, T 236, T 237, T 238, T 239, T 240, T 241, T 242, T 243, T 244, T 245, T 246, T 247, T 248, T 249, T 250, T 251, T 252, T 253, T 254, T 255, T 256, T 257, T 258, T 259, T 260, T 261, T 262, T 263, T 264, T 265, T 266, T 267, T 268, T 269, T 270, T 271, T 272, T 273, T 274, T 275, T 276, T 277, T 278, T 279, T 280, T 281, T 282, T 283, T 284, T 285, T 286, T 287, T 288, T 289, T 290, T 291, T 292, T 293, T 294, T 295, T 296, T 297, T 298, T 299, T 300, T 301, T 302, T 303, T 304, T 305, T 306, T 307, T 308, T 309, T 310, T 311, T 312, T 313, T 314, T 315, T 316, T 317, T 318, T 319, T 320, T 321, T 322, T 323, T 324, T 325, T 326, T 327, T 328, T 329, T 330, T 331, T 332, T 333, T 334, T 335, T 336, T 337, T 338, T 339, T 340, T 341, T 342, T 343, T 344, T 345, T 346, T 347, T 348, T 349, T 350, T 351, T 352, T 353, T 354, T 355, T 356, T 357, T 358, T 359, T 360, T 361, T 362, T 363, T 364, T 365, T 366, T 367, T 368, T 369, T 370, T 371, T 372, T 373, T 374, T 375, T 376, T 377, T 378, T 379, T 380, T 381, T 382, T 383, T 384, T 385, T 386, T 387, T 388, T 389, T 390, T 391, T 392, T 393, T 394, T 395, T 396, T 397, T 398, T 399, T 400, T 401, T 402, T 403, T 404, T 405, T 406, T 407, T 408, T 409, T 410, T 411, T 412, T 413, T 414, T 415, T 416, T 417, T 418, T 419, T 420, T 421, T 422, T 423, T 424, T 425, T 426, T 427, T 428, T 429, T 430, T 431, T 432, T 433, T 434, T 435, T 436, T 437, T 438, T 439, T 440, T 441, T 442, T 443, T 444, T 445, T 446, T 447, T 448, T 449, T 450, T 451, T 452, T 453, T 454, T 455, T 456, T 457, T 458, T 459, T 460, T 461, T 462, T 463, T 464, T 465, T 466, T 467, T 468, T 469, T 470, T 471, T 472, T 473, T 474, T 475, T 476, T 477, T 478, T 479, T 480, T 481, T 482, T 483, T 484, T 485, T 486, T 487, T 488, T 489, T 490, T 491, T 492, T 493, T 494, T 495, T 496, T 497, T 498, T 499, T 500, T 501, T 502, T 503, T 504, T 505, T 506, T 507, T 508, T 509, T 510, T 511, T 512]
set_option maxRecDepth 100000 in
theorem arrQ_e (f : Nat → Value) : arrQ f (f 5) (f 8) (f 10) (f 12) (f 13) (f 14) (f 16) (f 19) (f 28) (f 29) (f 30) (f 31) (f 32) (f 33) (f 34) (f 35) (f 36) (f 37) (f 38) = (Array.range 513).map f := by kernel_rfl
theorem arrQ_mk {X : Array Value} {v5 v8 v10 v12 v13 v14 v16 v19 v28 v29 v30 v31 v32 v33 v34 v35 v36 v37 v38 : Value} (h : X.size = 513) (h5 : X.getD 5 undef = v5) (h8 : X.getD 8 undef = v8) (h10 : X.getD 10 undef = v10) (h12 : X.getD 12 undef = v12) (h13 : X.getD 13 undef = v13) (h14 : X.getD 14 undef = v14) (h16 : X.getD 16 undef = v16) (h19 : X.getD 19 undef = v19) (h28 : X.getD 28 undef = v28) (h29 : X.getD 29 undef = v29) (h30 : X.getD 30 undef = v30) (h31 : X.getD 31 undef = v31) (h32 : X.getD 32 undef = v32) (h33 : X.getD 33 undef = v33) (h34 : X.getD 34 undef = v34) (h35 : X.getD 35 undef = v35) (h36 : X.getD 36 undef = v36) (h37 : X.getD 37 undef = v37) (h38 : X.getD 38 undef = v38) : ∃ T, (∀ i, T i = X.getD i undef) ∧ X = arrQ T v5 v8 v10 v12 v13 v14 v16 v19 v28 v29 v30 v31 v32 v33 v34 v35 v36 v37 v38 := by
  subst h5; subst h8; subst h10; subst h12; subst h13; subst h14; subst h16; subst h19; subst h28; subst h29; subst h30; subst h31; subst h32; subst h33; subst h34; subst h35; subst h36; subst h37; subst h38
  exact ⟨fun i => X.getD i undef, fun _ => rfl, (arr_range X h).trans (arrQ_e fun i => X.getD i undef).symm⟩
set_option maxRecDepth 100000 in
set_option maxHeartbeats 16000000 in
theorem reg31_tz {Q : Exit → Act → World → Prop} {T : Nat → Value} {n m size i k b1 o1 d1 lh b2 o2 d2 br or_ cr bt ot ct b6 o6 d6 b7 o7 d7 hh bl sh ba oa cb j q : Nat} {w : World}
    (hn1 : n ≤ 1000) (hk : k < n) (hi : i < m) (hj : j < n)
    (g1 : w.cell? ⟨ba, oa, none⟩ = some (.bool false))
    (g2 : w.cell? ⟨br, or_ + i, none⟩ = some (.slice (some ⟨b6, o6, none⟩) n d6)) (g3 : w.cell? ⟨bt, ot + i, none⟩ = some (.slice (some ⟨b7, o7, none⟩) n d7))
    (g4 : w.cell? ⟨b6, o6 + k, none⟩ = some (.int .i64 (hh : Nat))) (g5 : w.cell? ⟨b7, o7 + k, none⟩ = some (.int .i64 (hh : Nat))) (g6 : w.cell? ⟨b1, o1 + k, none⟩ = some (.int .i64 (hh : Nat))) (g7 : w.cell? ⟨b2, o2 + k, none⟩ = some (.int .i64 (j : Nat)))
    (hle : lh ≤ hh) (hbl : bl < size)
    (hlt : hh < 2147483648)
    (hk0 : k = 0)
    (t6 : FloatKind.f32.format.order q (floatOfInt .f32 ((hh : Int) / 256)) = some .eq) (t7 : (FloatKind.f32.format.order sh 0 == some .lt) = false) (t8 : FloatKind.f32.format.order sh 1065353216 = some .lt)
    (hq : ∀ t w, (binOp .mul t (.float .f32 sh) (.float .f32 1266679808)).run Try.prog w = .ok (.float .f32 q) w)
    (CK : Hid (∀ w : World, Calls Try.prog 63 #[.int .i64 (hh : Int)] w fun e w' => e = .returned (.bool true) ∧ w' = w))
    (h : ∀ X nq, X.size = 513 → X.getD 460 undef = .bool false → X.getD 0 undef = T 0 → X.getD 1 undef = T 1 → X.getD 5 undef = .int .i64 (n : Nat) → X.getD 6 undef = T 6 → X.getD 7 undef = T 7 → X.getD 8 undef = .slice (some ⟨br, or_, none⟩) m cr → X.getD 10 undef = .slice (some ⟨bt, ot, none⟩) m ct → X.getD 12 undef = .int .i64 (size : Nat) → X.getD 13 undef = .int .i64 (i : Nat) → X.getD 14 undef = .slice (some ⟨b1, o1, none⟩) n d1 → X.getD 16 undef = .int .i64 (lh : Nat) → X.getD 17 undef = T 17 → X.getD 19 undef = .slice (some ⟨b2, o2, none⟩) n d2 → X.getD 21 undef = T 21 → X.getD 23 undef = T 23 → X.getD 25 undef = T 25 → X.getD 27 undef = T 27 → X.getD 28 undef = .int .i64 (k : Nat) → X.getD 33 undef = .int .i64 (bl : Nat) → Q .normal ⟨X, []⟩ (w.drewN nq)) :
    (Code.region 31 r31 true).wp Try.prog Q ⟨arrQ T (.int .i64 (n : Nat)) (.slice (some ⟨br, or_, none⟩) m cr) (.slice (some ⟨bt, ot, none⟩) m ct) (.int .i64 (size : Nat)) (.int .i64 (i : Nat)) (.slice (some ⟨b1, o1, none⟩) n d1) (.int .i64 (lh : Nat)) (.slice (some ⟨b2, o2, none⟩) n d2) (.int .i64 (k : Nat)) (.int .i64 (hh : Nat)) (.bool true) (.int .i64 1) (.bool true) (.int .i64 (bl : Nat)) (.bool true) (.float .f32 sh) (.bool true) (.slice (some ⟨ba, oa, none⟩) 32 cb) (.bool true), []⟩ w := by
  have hkl1 : (k : Int) < (n : Int) := by omega
  have hil1 : (i : Int) < (m : Int) := by omega
  have hi0 : (0 : Int) ≤ (i : Int) := by omega
  have hk0' : (0 : Int) ≤ (k : Int) := by omega
  have hj1 : (j : Int) < (n : Int) := by omega
  have g8 : decide ((hh : Int) < (lh : Int)) = false := decide_eq_false (by omega)
  have g9 : decide (hh < lh) = false := decide_eq_false (by omega)
  have m1 : decide ((j : Int) < 0) = false := decide_eq_false (by omega)
  have m2 : decide ((n : Int) ≤ (j : Int)) = false := decide_eq_false (by omega)
  have m3 : decide (n ≤ j) = false := decide_eq_false (by omega)
  have m4 : decide ((bl : Int) < 0) = false := decide_eq_false (by omega)
  have m5 : decide ((size : Int) ≤ (bl : Int)) = false := decide_eq_false (by omega)
  have m6 : decide (size ≤ bl) = false := decide_eq_false (by omega)
  have x1 : decide ((hh : Int) < 2147483648) = true := decide_eq_true (by omega)
  have x2 : decide (hh < 2147483648) = true := decide_eq_true (by omega)
  have y1 : decide (0 < k) = false := decide_eq_false (by omega)
  have y2 : decide ((0 : Int) < (k : Int)) = false := decide_eq_false (by omega)
  clear hk0
  have hhl : (hh : Int) < 4294967296 := by omega
  have hH := hid h
  clear hle hbl hlt h
  have hlex := r31_lex
  have hsel := r31_sel
  unfold r31 at hlex hsel ⊢
  simp only [arrQ, findReg, hbody, Try.f10, Option.getD_some, reduceIte, reduceCtorEq, Nat.reduceEqDiff, List.append_eq, List.cons_append, List.nil_append] at hlex hsel ⊢
  refine wp_region_quiet_big (by kernel_rfl) hsel hlex ?_
  clear hsel hlex
  repeat (go_big_quiet_step (first | simp only [hq] | (go_at_call 63; exact Calls.quiet_of_same (CK.out _))))
  refine wpQuiet_nil ?_
  intro _ hw'
  obtain ⟨nq, hw''⟩ := hw'
  subst hw''
  exact hH.out _ nq (by kernel_rfl) (by kernel_rfl) (by kernel_rfl) (by kernel_rfl) (by kernel_rfl) (by kernel_rfl) (by kernel_rfl) (by kernel_rfl) (by kernel_rfl) (by kernel_rfl) (by kernel_rfl) (by kernel_rfl) (by kernel_rfl) (by kernel_rfl) (by kernel_rfl) (by kernel_rfl) (by kernel_rfl) (by kernel_rfl) (by kernel_rfl) (by kernel_rfl) (by kernel_rfl)
set_option maxRecDepth 100000 in
set_option maxHeartbeats 16000000 in
theorem reg31_tp {Q : Exit → Act → World → Prop} {T : Nat → Value} {n m size i k b1 o1 d1 lh b2 o2 d2 br or_ cr bt ot ct b6 o6 d6 b7 o7 d7 hh bl sh ba oa cb j q j' u u' : Nat} {w : World}
    (hn1 : n ≤ 1000) (hk : k < n) (hi : i < m) (hj : j < n)
    (g1 : w.cell? ⟨ba, oa, none⟩ = some (.bool false))
    (g2 : w.cell? ⟨br, or_ + i, none⟩ = some (.slice (some ⟨b6, o6, none⟩) n d6)) (g3 : w.cell? ⟨bt, ot + i, none⟩ = some (.slice (some ⟨b7, o7, none⟩) n d7))
    (g4 : w.cell? ⟨b6, o6 + k, none⟩ = some (.int .i64 (hh : Nat))) (g5 : w.cell? ⟨b7, o7 + k, none⟩ = some (.int .i64 (hh : Nat))) (g6 : w.cell? ⟨b1, o1 + k, none⟩ = some (.int .i64 (hh : Nat))) (g7 : w.cell? ⟨b2, o2 + k, none⟩ = some (.int .i64 (j : Nat)))
    (hle : lh ≤ hh) (hbl : bl < size)
    (hlt : hh < 2147483648)
    (hk0 : 0 < k) (hj' : j' < n) (g10 : w.cell? ⟨b2, o2 + (k - 1), none⟩ = some (.int .i64 (j' : Nat))) (g11 : w.cell? ⟨b1, o1 + j, none⟩ = some (.int .i64 (u : Nat))) (g12 : w.cell? ⟨b1, o1 + j', none⟩ = some (.int .i64 (u' : Nat))) (hu : u' ≤ u)
    (t6 : FloatKind.f32.format.order q (floatOfInt .f32 ((hh : Int) / 256)) = some .eq) (t7 : (FloatKind.f32.format.order sh 0 == some .lt) = false) (t8 : FloatKind.f32.format.order sh 1065353216 = some .lt)
    (hq : ∀ t w, (binOp .mul t (.float .f32 sh) (.float .f32 1266679808)).run Try.prog w = .ok (.float .f32 q) w)
    (CK : Hid (∀ w : World, Calls Try.prog 63 #[.int .i64 (hh : Int)] w fun e w' => e = .returned (.bool true) ∧ w' = w))
    (h : ∀ X nq, X.size = 513 → X.getD 460 undef = .bool false → X.getD 0 undef = T 0 → X.getD 1 undef = T 1 → X.getD 5 undef = .int .i64 (n : Nat) → X.getD 6 undef = T 6 → X.getD 7 undef = T 7 → X.getD 8 undef = .slice (some ⟨br, or_, none⟩) m cr → X.getD 10 undef = .slice (some ⟨bt, ot, none⟩) m ct → X.getD 12 undef = .int .i64 (size : Nat) → X.getD 13 undef = .int .i64 (i : Nat) → X.getD 14 undef = .slice (some ⟨b1, o1, none⟩) n d1 → X.getD 16 undef = .int .i64 (lh : Nat) → X.getD 17 undef = T 17 → X.getD 19 undef = .slice (some ⟨b2, o2, none⟩) n d2 → X.getD 21 undef = T 21 → X.getD 23 undef = T 23 → X.getD 25 undef = T 25 → X.getD 27 undef = T 27 → X.getD 28 undef = .int .i64 (k : Nat) → X.getD 33 undef = .int .i64 (bl : Nat) → Q .normal ⟨X, []⟩ (w.drewN nq)) :
    (Code.region 31 r31 true).wp Try.prog Q ⟨arrQ T (.int .i64 (n : Nat)) (.slice (some ⟨br, or_, none⟩) m cr) (.slice (some ⟨bt, ot, none⟩) m ct) (.int .i64 (size : Nat)) (.int .i64 (i : Nat)) (.slice (some ⟨b1, o1, none⟩) n d1) (.int .i64 (lh : Nat)) (.slice (some ⟨b2, o2, none⟩) n d2) (.int .i64 (k : Nat)) (.int .i64 (hh : Nat)) (.bool true) (.int .i64 1) (.bool true) (.int .i64 (bl : Nat)) (.bool true) (.float .f32 sh) (.bool true) (.slice (some ⟨ba, oa, none⟩) 32 cb) (.bool true), []⟩ w := by
  have hkl1 : (k : Int) < (n : Int) := by omega
  have hil1 : (i : Int) < (m : Int) := by omega
  have hi0 : (0 : Int) ≤ (i : Int) := by omega
  have hk0' : (0 : Int) ≤ (k : Int) := by omega
  have hj1 : (j : Int) < (n : Int) := by omega
  have g8 : decide ((hh : Int) < (lh : Int)) = false := decide_eq_false (by omega)
  have g9 : decide (hh < lh) = false := decide_eq_false (by omega)
  have m1 : decide ((j : Int) < 0) = false := decide_eq_false (by omega)
  have m2 : decide ((n : Int) ≤ (j : Int)) = false := decide_eq_false (by omega)
  have m3 : decide (n ≤ j) = false := decide_eq_false (by omega)
  have m4 : decide ((bl : Int) < 0) = false := decide_eq_false (by omega)
  have m5 : decide ((size : Int) ≤ (bl : Int)) = false := decide_eq_false (by omega)
  have m6 : decide (size ≤ bl) = false := decide_eq_false (by omega)
  have x1 : decide ((hh : Int) < 2147483648) = true := decide_eq_true (by omega)
  have x2 : decide (hh < 2147483648) = true := decide_eq_true (by omega)
  have y1 : decide (0 < k) = true := decide_eq_true (by omega)
  have y2 : decide ((0 : Int) < (k : Int)) = true := decide_eq_true (by omega)
  have e3 : ((k : Int) - 1).toNat = k - 1 := by omega
  have e4 : (k : Int) - 1 < (n : Int) := by omega
  have e5 : (0 : Int) ≤ (k : Int) - 1 := by omega
  have e6 : IntKind.i64.wrap ((k : Int) - 1) = (k : Int) - 1 := by rw [IntKind.wrap_i64]; omega
  have z1' : decide ((u : Int) < (u' : Int)) = false := decide_eq_false (by omega)
  have z2' : decide (u < u') = false := decide_eq_false (by omega)
  have n4 : (j' : Int) < (n : Int) := by omega
  clear hu
  have hhl : (hh : Int) < 4294967296 := by omega
  have hH := hid h
  clear hle hbl hlt h
  have hlex := r31_lex
  have hsel := r31_sel
  unfold r31 at hlex hsel ⊢
  simp only [arrQ, findReg, hbody, Try.f10, Option.getD_some, reduceIte, reduceCtorEq, Nat.reduceEqDiff, List.append_eq, List.cons_append, List.nil_append] at hlex hsel ⊢
  refine wp_region_quiet_big (by kernel_rfl) hsel hlex ?_
  clear hsel hlex
  repeat (go_big_quiet_step (first | simp only [hq] | (go_at_call 63; exact Calls.quiet_of_same (CK.out _))))
  refine wpQuiet_nil ?_
  intro _ hw'
  obtain ⟨nq, hw''⟩ := hw'
  subst hw''
  exact hH.out _ nq (by kernel_rfl) (by kernel_rfl) (by kernel_rfl) (by kernel_rfl) (by kernel_rfl) (by kernel_rfl) (by kernel_rfl) (by kernel_rfl) (by kernel_rfl) (by kernel_rfl) (by kernel_rfl) (by kernel_rfl) (by kernel_rfl) (by kernel_rfl) (by kernel_rfl) (by kernel_rfl) (by kernel_rfl) (by kernel_rfl) (by kernel_rfl) (by kernel_rfl) (by kernel_rfl)
set_option maxRecDepth 100000 in
set_option maxHeartbeats 16000000 in
theorem reg31_fz {Q : Exit → Act → World → Prop} {T : Nat → Value} {n m size i k b1 o1 d1 lh b2 o2 d2 br or_ cr bt ot ct b6 o6 d6 b7 o7 d7 hh bl sh ba oa cb j q : Nat} {w : World}
    (hn1 : n ≤ 1000) (hk : k < n) (hi : i < m) (hj : j < n)
    (g1 : w.cell? ⟨ba, oa, none⟩ = some (.bool true))
    (g2 : w.cell? ⟨br, or_ + i, none⟩ = some (.slice (some ⟨b6, o6, none⟩) n d6)) (g3 : w.cell? ⟨bt, ot + i, none⟩ = some (.slice (some ⟨b7, o7, none⟩) n d7))
    (g4 : w.cell? ⟨b6, o6 + k, none⟩ = some (.int .i64 (hh : Nat))) (g5 : w.cell? ⟨b7, o7 + k, none⟩ = some (.int .i64 (hh : Nat))) (g6 : w.cell? ⟨b1, o1 + k, none⟩ = some (.int .i64 (hh : Nat))) (g7 : w.cell? ⟨b2, o2 + k, none⟩ = some (.int .i64 (j : Nat)))
    (hle : lh ≤ hh) (hbl : bl < size)
    (hlt : 2147483648 ≤ hh ∧ hh < 4294967296)
    (hk0 : k = 0)
    (t6 : FloatKind.f32.format.order q (floatOfInt .f32 ((hh : Int) / 256)) = some .eq) (t7 : (FloatKind.f32.format.order sh 0 == some .lt) = false) (t8 : FloatKind.f32.format.order sh 1065353216 = some .lt)
    (hq : ∀ t w, (binOp .mul t (.float .f32 sh) (.float .f32 1266679808)).run Try.prog w = .ok (.float .f32 q) w)
    (CK : Hid (∀ w : World, Calls Try.prog 63 #[.int .i64 (hh : Int)] w fun e w' => e = .returned (.bool true) ∧ w' = w))
    (h : ∀ X nq, X.size = 513 → X.getD 460 undef = .bool false → X.getD 0 undef = T 0 → X.getD 1 undef = T 1 → X.getD 5 undef = .int .i64 (n : Nat) → X.getD 6 undef = T 6 → X.getD 7 undef = T 7 → X.getD 8 undef = .slice (some ⟨br, or_, none⟩) m cr → X.getD 10 undef = .slice (some ⟨bt, ot, none⟩) m ct → X.getD 12 undef = .int .i64 (size : Nat) → X.getD 13 undef = .int .i64 (i : Nat) → X.getD 14 undef = .slice (some ⟨b1, o1, none⟩) n d1 → X.getD 16 undef = .int .i64 (lh : Nat) → X.getD 17 undef = T 17 → X.getD 19 undef = .slice (some ⟨b2, o2, none⟩) n d2 → X.getD 21 undef = T 21 → X.getD 23 undef = T 23 → X.getD 25 undef = T 25 → X.getD 27 undef = T 27 → X.getD 28 undef = .int .i64 (k : Nat) → X.getD 33 undef = .int .i64 (bl : Nat) → Q .normal ⟨X, []⟩ (w.drewN nq)) :
    (Code.region 31 r31 true).wp Try.prog Q ⟨arrQ T (.int .i64 (n : Nat)) (.slice (some ⟨br, or_, none⟩) m cr) (.slice (some ⟨bt, ot, none⟩) m ct) (.int .i64 (size : Nat)) (.int .i64 (i : Nat)) (.slice (some ⟨b1, o1, none⟩) n d1) (.int .i64 (lh : Nat)) (.slice (some ⟨b2, o2, none⟩) n d2) (.int .i64 (k : Nat)) (.int .i64 (hh : Nat)) (.bool true) (.int .i64 (-1)) (.bool true) (.int .i64 (bl : Nat)) (.bool true) (.float .f32 sh) (.bool true) (.slice (some ⟨ba, oa, none⟩) 32 cb) (.bool true), []⟩ w := by
  have hkl1 : (k : Int) < (n : Int) := by omega
  have hil1 : (i : Int) < (m : Int) := by omega
  have hi0 : (0 : Int) ≤ (i : Int) := by omega
  have hk0' : (0 : Int) ≤ (k : Int) := by omega
  have hj1 : (j : Int) < (n : Int) := by omega
  have g8 : decide ((hh : Int) < (lh : Int)) = false := decide_eq_false (by omega)
  have g9 : decide (hh < lh) = false := decide_eq_false (by omega)
  have m1 : decide ((j : Int) < 0) = false := decide_eq_false (by omega)
  have m2 : decide ((n : Int) ≤ (j : Int)) = false := decide_eq_false (by omega)
  have m3 : decide (n ≤ j) = false := decide_eq_false (by omega)
  have m4 : decide ((bl : Int) < 0) = false := decide_eq_false (by omega)
  have m5 : decide ((size : Int) ≤ (bl : Int)) = false := decide_eq_false (by omega)
  have m6 : decide (size ≤ bl) = false := decide_eq_false (by omega)
  have x1 : decide ((hh : Int) < 2147483648) = false := decide_eq_false (by omega)
  have x2 : decide (hh < 2147483648) = false := decide_eq_false (by omega)
  have y1 : decide (0 < k) = false := decide_eq_false (by omega)
  have y2 : decide ((0 : Int) < (k : Int)) = false := decide_eq_false (by omega)
  clear hk0
  have hhl : (hh : Int) < 4294967296 := by omega
  have hH := hid h
  clear hle hbl hlt h
  have hlex := r31_lex
  have hsel := r31_sel
  unfold r31 at hlex hsel ⊢
  simp only [arrQ, findReg, hbody, Try.f10, Option.getD_some, reduceIte, reduceCtorEq, Nat.reduceEqDiff, List.append_eq, List.cons_append, List.nil_append] at hlex hsel ⊢
  refine wp_region_quiet_big (by kernel_rfl) hsel hlex ?_
  clear hsel hlex
  repeat (go_big_quiet_step (first | simp only [hq] | (go_at_call 63; exact Calls.quiet_of_same (CK.out _))))
  refine wpQuiet_nil ?_
  intro _ hw'
  obtain ⟨nq, hw''⟩ := hw'
  subst hw''
  exact hH.out _ nq (by kernel_rfl) (by kernel_rfl) (by kernel_rfl) (by kernel_rfl) (by kernel_rfl) (by kernel_rfl) (by kernel_rfl) (by kernel_rfl) (by kernel_rfl) (by kernel_rfl) (by kernel_rfl) (by kernel_rfl) (by kernel_rfl) (by kernel_rfl) (by kernel_rfl) (by kernel_rfl) (by kernel_rfl) (by kernel_rfl) (by kernel_rfl) (by kernel_rfl) (by kernel_rfl)
set_option maxRecDepth 100000 in
set_option maxHeartbeats 16000000 in
theorem reg31_fp {Q : Exit → Act → World → Prop} {T : Nat → Value} {n m size i k b1 o1 d1 lh b2 o2 d2 br or_ cr bt ot ct b6 o6 d6 b7 o7 d7 hh bl sh ba oa cb j q j' u u' : Nat} {w : World}
    (hn1 : n ≤ 1000) (hk : k < n) (hi : i < m) (hj : j < n)
    (g1 : w.cell? ⟨ba, oa, none⟩ = some (.bool true))
    (g2 : w.cell? ⟨br, or_ + i, none⟩ = some (.slice (some ⟨b6, o6, none⟩) n d6)) (g3 : w.cell? ⟨bt, ot + i, none⟩ = some (.slice (some ⟨b7, o7, none⟩) n d7))
    (g4 : w.cell? ⟨b6, o6 + k, none⟩ = some (.int .i64 (hh : Nat))) (g5 : w.cell? ⟨b7, o7 + k, none⟩ = some (.int .i64 (hh : Nat))) (g6 : w.cell? ⟨b1, o1 + k, none⟩ = some (.int .i64 (hh : Nat))) (g7 : w.cell? ⟨b2, o2 + k, none⟩ = some (.int .i64 (j : Nat)))
    (hle : lh ≤ hh) (hbl : bl < size)
    (hlt : 2147483648 ≤ hh ∧ hh < 4294967296)
    (hk0 : 0 < k) (hj' : j' < n) (g10 : w.cell? ⟨b2, o2 + (k - 1), none⟩ = some (.int .i64 (j' : Nat))) (g11 : w.cell? ⟨b1, o1 + j, none⟩ = some (.int .i64 (u : Nat))) (g12 : w.cell? ⟨b1, o1 + j', none⟩ = some (.int .i64 (u' : Nat))) (hu : u' ≤ u)
    (t6 : FloatKind.f32.format.order q (floatOfInt .f32 ((hh : Int) / 256)) = some .eq) (t7 : (FloatKind.f32.format.order sh 0 == some .lt) = false) (t8 : FloatKind.f32.format.order sh 1065353216 = some .lt)
    (hq : ∀ t w, (binOp .mul t (.float .f32 sh) (.float .f32 1266679808)).run Try.prog w = .ok (.float .f32 q) w)
    (CK : Hid (∀ w : World, Calls Try.prog 63 #[.int .i64 (hh : Int)] w fun e w' => e = .returned (.bool true) ∧ w' = w))
    (h : ∀ X nq, X.size = 513 → X.getD 460 undef = .bool false → X.getD 0 undef = T 0 → X.getD 1 undef = T 1 → X.getD 5 undef = .int .i64 (n : Nat) → X.getD 6 undef = T 6 → X.getD 7 undef = T 7 → X.getD 8 undef = .slice (some ⟨br, or_, none⟩) m cr → X.getD 10 undef = .slice (some ⟨bt, ot, none⟩) m ct → X.getD 12 undef = .int .i64 (size : Nat) → X.getD 13 undef = .int .i64 (i : Nat) → X.getD 14 undef = .slice (some ⟨b1, o1, none⟩) n d1 → X.getD 16 undef = .int .i64 (lh : Nat) → X.getD 17 undef = T 17 → X.getD 19 undef = .slice (some ⟨b2, o2, none⟩) n d2 → X.getD 21 undef = T 21 → X.getD 23 undef = T 23 → X.getD 25 undef = T 25 → X.getD 27 undef = T 27 → X.getD 28 undef = .int .i64 (k : Nat) → X.getD 33 undef = .int .i64 (bl : Nat) → Q .normal ⟨X, []⟩ (w.drewN nq)) :
    (Code.region 31 r31 true).wp Try.prog Q ⟨arrQ T (.int .i64 (n : Nat)) (.slice (some ⟨br, or_, none⟩) m cr) (.slice (some ⟨bt, ot, none⟩) m ct) (.int .i64 (size : Nat)) (.int .i64 (i : Nat)) (.slice (some ⟨b1, o1, none⟩) n d1) (.int .i64 (lh : Nat)) (.slice (some ⟨b2, o2, none⟩) n d2) (.int .i64 (k : Nat)) (.int .i64 (hh : Nat)) (.bool true) (.int .i64 (-1)) (.bool true) (.int .i64 (bl : Nat)) (.bool true) (.float .f32 sh) (.bool true) (.slice (some ⟨ba, oa, none⟩) 32 cb) (.bool true), []⟩ w := by
  have hkl1 : (k : Int) < (n : Int) := by omega
  have hil1 : (i : Int) < (m : Int) := by omega
  have hi0 : (0 : Int) ≤ (i : Int) := by omega
  have hk0' : (0 : Int) ≤ (k : Int) := by omega
  have hj1 : (j : Int) < (n : Int) := by omega
  have g8 : decide ((hh : Int) < (lh : Int)) = false := decide_eq_false (by omega)
  have g9 : decide (hh < lh) = false := decide_eq_false (by omega)
  have m1 : decide ((j : Int) < 0) = false := decide_eq_false (by omega)
  have m2 : decide ((n : Int) ≤ (j : Int)) = false := decide_eq_false (by omega)
  have m3 : decide (n ≤ j) = false := decide_eq_false (by omega)
  have m4 : decide ((bl : Int) < 0) = false := decide_eq_false (by omega)
  have m5 : decide ((size : Int) ≤ (bl : Int)) = false := decide_eq_false (by omega)
  have m6 : decide (size ≤ bl) = false := decide_eq_false (by omega)
  have x1 : decide ((hh : Int) < 2147483648) = false := decide_eq_false (by omega)
  have x2 : decide (hh < 2147483648) = false := decide_eq_false (by omega)
  have y1 : decide (0 < k) = true := decide_eq_true (by omega)
  have y2 : decide ((0 : Int) < (k : Int)) = true := decide_eq_true (by omega)
  have e3 : ((k : Int) - 1).toNat = k - 1 := by omega
  have e4 : (k : Int) - 1 < (n : Int) := by omega
  have e5 : (0 : Int) ≤ (k : Int) - 1 := by omega
  have e6 : IntKind.i64.wrap ((k : Int) - 1) = (k : Int) - 1 := by rw [IntKind.wrap_i64]; omega
  have z1' : decide ((u : Int) < (u' : Int)) = false := decide_eq_false (by omega)
  have z2' : decide (u < u') = false := decide_eq_false (by omega)
  have n4 : (j' : Int) < (n : Int) := by omega
  clear hu
  have hhl : (hh : Int) < 4294967296 := by omega
  have hH := hid h
  clear hle hbl hlt h
  have hlex := r31_lex
  have hsel := r31_sel
  unfold r31 at hlex hsel ⊢
  simp only [arrQ, findReg, hbody, Try.f10, Option.getD_some, reduceIte, reduceCtorEq, Nat.reduceEqDiff, List.append_eq, List.cons_append, List.nil_append] at hlex hsel ⊢
  refine wp_region_quiet_big (by kernel_rfl) hsel hlex ?_
  clear hsel hlex
  repeat (go_big_quiet_step (first | simp only [hq] | (go_at_call 63; exact Calls.quiet_of_same (CK.out _))))
  refine wpQuiet_nil ?_
  intro _ hw'
  obtain ⟨nq, hw''⟩ := hw'
  subst hw''
  exact hH.out _ nq (by kernel_rfl) (by kernel_rfl) (by kernel_rfl) (by kernel_rfl) (by kernel_rfl) (by kernel_rfl) (by kernel_rfl) (by kernel_rfl) (by kernel_rfl) (by kernel_rfl) (by kernel_rfl) (by kernel_rfl) (by kernel_rfl) (by kernel_rfl) (by kernel_rfl) (by kernel_rfl) (by kernel_rfl) (by kernel_rfl) (by kernel_rfl) (by kernel_rfl) (by kernel_rfl)
/-- ████ THE GREATEST REGION. ████ -/
theorem reg31 {Q : Exit → Act → World → Prop} {tm : Array Value} {sg : Int} {n m size i k b1 o1 d1 lh b2 o2 d2 br or_ cr bt ot ct b6 o6 d6 b7 o7 d7 hh bl sh ba oa cb j q : Nat} {w : World}
    (hn1 : n ≤ 1000) (hk : k < n) (hi : i < m) (hj : j < n)
    (g1 : w.cell? ⟨ba, oa, none⟩ = some (.bool (decide (2147483648 ≤ hh))))
    (g2 : w.cell? ⟨br, or_ + i, none⟩ = some (.slice (some ⟨b6, o6, none⟩) n d6)) (g3 : w.cell? ⟨bt, ot + i, none⟩ = some (.slice (some ⟨b7, o7, none⟩) n d7))
    (g4 : w.cell? ⟨b6, o6 + k, none⟩ = some (.int .i64 (hh : Nat))) (g5 : w.cell? ⟨b7, o7 + k, none⟩ = some (.int .i64 (hh : Nat))) (g6 : w.cell? ⟨b1, o1 + k, none⟩ = some (.int .i64 (hh : Nat))) (g7 : w.cell? ⟨b2, o2 + k, none⟩ = some (.int .i64 (j : Nat)))
    (hle : lh ≤ hh) (hbl : bl < size)
    (hlt : hh < 4294967296) (hsg : sg = if hh < 2147483648 then 1 else -1)
    (hpos : 0 < k → ∃ j' u u', j' < n ∧ w.cell? ⟨b2, o2 + (k - 1), none⟩ = some (.int .i64 (j' : Nat)) ∧ w.cell? ⟨b1, o1 + j, none⟩ = some (.int .i64 (u : Nat)) ∧ w.cell? ⟨b1, o1 + j', none⟩ = some (.int .i64 (u' : Nat)) ∧ u' ≤ u)
    (t6 : FloatKind.f32.format.order q (floatOfInt .f32 ((hh : Int) / 256)) = some .eq) (t7 : (FloatKind.f32.format.order sh 0 == some .lt) = false) (t8 : FloatKind.f32.format.order sh 1065353216 = some .lt)
    (hq : ∀ t w, (binOp .mul t (.float .f32 sh) (.float .f32 1266679808)).run Try.prog w = .ok (.float .f32 q) w)
    (CK : Hid (∀ w : World, Calls Try.prog 63 #[.int .i64 (hh : Int)] w fun e w' => e = .returned (.bool true) ∧ w' = w))
    (hs : tm.size = 513) (h5 : tm.getD 5 undef = .int .i64 (n : Nat)) (h8 : tm.getD 8 undef = .slice (some ⟨br, or_, none⟩) m cr) (h10 : tm.getD 10 undef = .slice (some ⟨bt, ot, none⟩) m ct) (h12 : tm.getD 12 undef = .int .i64 (size : Nat)) (h13 : tm.getD 13 undef = .int .i64 (i : Nat)) (h14 : tm.getD 14 undef = .slice (some ⟨b1, o1, none⟩) n d1) (h16 : tm.getD 16 undef = .int .i64 (lh : Nat)) (h19 : tm.getD 19 undef = .slice (some ⟨b2, o2, none⟩) n d2) (h28 : tm.getD 28 undef = .int .i64 (k : Nat)) (h29 : tm.getD 29 undef = .int .i64 (hh : Nat)) (h30 : tm.getD 30 undef = .bool true) (h31 : tm.getD 31 undef = .int .i64 sg) (h32 : tm.getD 32 undef = .bool true) (h33 : tm.getD 33 undef = .int .i64 (bl : Nat)) (h34 : tm.getD 34 undef = .bool true) (h35 : tm.getD 35 undef = .float .f32 sh) (h36 : tm.getD 36 undef = .bool true) (h37 : tm.getD 37 undef = .slice (some ⟨ba, oa, none⟩) 32 cb) (h38 : tm.getD 38 undef = .bool true)
    (h : ∀ X nq, X.size = 513 → X.getD 460 undef = .bool false → X.getD 0 undef = tm.getD 0 undef → X.getD 1 undef = tm.getD 1 undef → X.getD 5 undef = tm.getD 5 undef → X.getD 6 undef = tm.getD 6 undef → X.getD 7 undef = tm.getD 7 undef → X.getD 8 undef = tm.getD 8 undef → X.getD 10 undef = tm.getD 10 undef → X.getD 12 undef = tm.getD 12 undef → X.getD 13 undef = tm.getD 13 undef → X.getD 14 undef = tm.getD 14 undef → X.getD 16 undef = tm.getD 16 undef → X.getD 17 undef = tm.getD 17 undef → X.getD 19 undef = tm.getD 19 undef → X.getD 21 undef = tm.getD 21 undef → X.getD 23 undef = tm.getD 23 undef → X.getD 25 undef = tm.getD 25 undef → X.getD 27 undef = tm.getD 27 undef → X.getD 28 undef = tm.getD 28 undef → X.getD 33 undef = tm.getD 33 undef → Q .normal ⟨X, []⟩ (w.drewN nq)) :
    (Code.region 31 r31 true).wp Try.prog Q ⟨tm, []⟩ w := by
  obtain ⟨T, hT, rfl⟩ := arrQ_mk hs h5 h8 h10 h12 h13 h14 h16 h19 h28 h29 h30 h31 h32 h33 h34 h35 h36 h37 h38
  have hh2 : ∀ X nq, X.size = 513 → X.getD 460 undef = .bool false → X.getD 0 undef = T 0 → X.getD 1 undef = T 1 → X.getD 5 undef = .int .i64 (n : Nat) → X.getD 6 undef = T 6 → X.getD 7 undef = T 7 → X.getD 8 undef = .slice (some ⟨br, or_, none⟩) m cr → X.getD 10 undef = .slice (some ⟨bt, ot, none⟩) m ct → X.getD 12 undef = .int .i64 (size : Nat) → X.getD 13 undef = .int .i64 (i : Nat) → X.getD 14 undef = .slice (some ⟨b1, o1, none⟩) n d1 → X.getD 16 undef = .int .i64 (lh : Nat) → X.getD 17 undef = T 17 → X.getD 19 undef = .slice (some ⟨b2, o2, none⟩) n d2 → X.getD 21 undef = T 21 → X.getD 23 undef = T 23 → X.getD 25 undef = T 25 → X.getD 27 undef = T 27 → X.getD 28 undef = .int .i64 (k : Nat) → X.getD 33 undef = .int .i64 (bl : Nat) → Q .normal ⟨X, []⟩ (w.drewN nq) := fun X nq e0 e1 f0 f1 f5 f6 f7 f8 f10 f12 f13 f14 f16 f17 f19 f21 f23 f25 f27 f28 f33 => h X nq e0 e1 (f0.trans (hT 0)) (f1.trans (hT 1)) (f5.trans h5.symm) (f6.trans (hT 6)) (f7.trans (hT 7)) (f8.trans h8.symm) (f10.trans h10.symm) (f12.trans h12.symm) (f13.trans h13.symm) (f14.trans h14.symm) (f16.trans h16.symm) (f17.trans (hT 17)) (f19.trans h19.symm) (f21.trans (hT 21)) (f23.trans (hT 23)) (f25.trans (hT 25)) (f27.trans (hT 27)) (f28.trans h28.symm) (f33.trans h33.symm)
  clear h
  by_cases hb : hh < 2147483648
  · rw [if_pos hb] at hsg
    subst hsg
    rw [decide_eq_false (show ¬ 2147483648 ≤ hh by omega)] at g1
    rcases Nat.eq_zero_or_pos k with hz | hz
    · exact reg31_tz hn1 hk hi hj g1 g2 g3 g4 g5 g6 g7 hle hbl hb hz t6 t7 t8 hq CK hh2
    · obtain ⟨j', u, u', p1, p2, p3, p4, p5⟩ := hpos hz
      exact reg31_tp hn1 hk hi hj g1 g2 g3 g4 g5 g6 g7 hle hbl hb hz p1 p2 p3 p4 p5 t6 t7 t8 hq CK hh2
  · rw [if_neg hb] at hsg
    subst hsg
    rw [decide_eq_true (show 2147483648 ≤ hh by omega)] at g1
    rcases Nat.eq_zero_or_pos k with hz | hz
    · exact reg31_fz hn1 hk hi hj g1 g2 g3 g4 g5 g6 g7 hle hbl ⟨by omega, hlt⟩ hz t6 t7 t8 hq CK hh2
    · obtain ⟨j', u, u', p1, p2, p3, p4, p5⟩ := hpos hz
      exact reg31_fp hn1 hk hi hj g1 g2 g3 g4 g5 g6 g7 hle hbl ⟨by omega, hlt⟩ hz p1 p2 p3 p4 p5 t6 t7 t8 hq CK hh2
abbrev arrN (T : Nat → Value) (v0 v1 v5 v6 v7 v8 v10 v12 v13 v14 v16 v17 v19 v21 v23 v25 v27 v28 v33 v460 : Value) : Array Value := #[v0, v1, T 2, T 3, T 4, v5, v6, v7, v8, T 9, v10, T 11, v12, v13, v14, T 15, v16, v17, T 18, v19, T 20, v21, T 22, v23, T 24, v25, T 26, v27, v28, T 29, T 30, T 31, T 32, v33, T 34, T 35, T 36, T 37, T 38, T 39, T 40, T 41, T 42, T 43, T 44, T 45, T 46, T 47, T 48, T 49, T 50, T 51, T 52, T 53, T 54, T 55, T 56, T 57, T 58, T 59, T 60, T 61, T 62, T 63, T 64, T 65, T 66, T 67, T 68, T 69, T 70, T 71, T 72, T 73, T 74, T 75, T 76, T 77, T 78, T 79, T 80, T 81, T 82, T 83, T 84, T 85, T 86, T 87, T 88, T 89, T 90, T 91, T 92, T 93, T 94, T 95, T 96, T 97, T 98, T 99, T 100, T 101, T 102, T 103, T 104, T 105, T 106, T 107, T 108, T 109, T 110, T 111, T 112, T 113, T 114, T 115, T 116, T 117, T 118, T 119, T 120, T 121, T 122, T 123, T 124, T 125, T 126, T 127, T 128, T 129, T 130, T 131, T 132, T 133, T 134, T 135, T 136, T 137, T 138, T 139, T 140, T 141, T 142, T 143, T 144, T 145, T 146, T 147, T 148, T 149, T 150, T 151, T 152, T 153, T 154, T 155, T 156, T 157, T 158, T 159, T 160, T 161, T 162, T 163, T 164, T 165, T 166, T 167, T 168, T 169, T 170, T 171, T 172, T 173, T 174, T 175, T 176, T 177, T 178, T 179, T 180, T 181, T 182, T 183, T 184, T 185, T 186, T 187, T 188, T 189, T 190, T 191, T 192, T 193, T 194, T 195, T 196, T 197, T 198, T 199, T 200, T 201, T 202, T 203, T 204, T 205, T 206, T 207, T 208, T 209, T 210, T 211, T 212, T 213, T 214, T 215, T 216, T 217, T 218, T 219, T 220, T 221, T 222, T 223, T 224, T 225, T 226, T 227, T 228, T 229, T 230, T 231, T 232, T 233, T 234, T 235, T 236, T 237, T 238, T 239, T 240, T 241, T 242, T 243, T 244, T 245, T 246, T 247, T 248, T 249, T 250, T 251, T 252, T 253, T 254, T 255, T 256, T 257, T 258, T 259, T 260, T 261, T 262, T 263, T 264, T 265, T 266, T 267, T 268, T 269, T 270, T 271, T 272, T 273, T 274, T 275, T 276, T 277, T 278, T 279, T 280, T 281, T 282, T 283, T 284, T 285, T 286, T 287, T 288, T 289, T 290, T 291, T 292, T 293, T 294, T 295, T 296, T 297, T 298, T 299, T 300, T 301, T 302, T 303, T 304, T 305, T 306, T 307, T 308, T 309, T 310, T 311, T 312, T 313, T 314, T 315, T 316, T 317, T 318, T 319, T 320, T 321, T 322, T 323, T 324, T 325, T 326, T 327, T 328, T 329, T 330, T 331, T 332, T 333, T 334, T 335, T 336, T 337, T 338, T 339, T 340, T 341, T 342, T 343, T 344, T 345, T 346, T 347, T 348, T 349, T 350, T 351, T 352, T 353, T 354, T 355, T 356, T 357, T 358, T 359, T 360, T 361, T 362, T 363, T 364, T 365, T 366, T 367, T 368, T 369, T 370, T 371, T 372, T 373, T 374, T 375, T 376, T 377, T 378, T 379, T 380, T 381, T 382, T 383, T 384, T 385, T 386, T 387, T 388, T 389, T 390, T 391, T 392, T 393, T 394, T 395, T 396, T 397, T 398, T 399, T 400, T 401, T 402, T 403, T 404, T 405, T 406, T 407, T 408, T 409, T 410, T 411, T 412, T 413, T 414, T 415, T 416, T 417, T 418, T 419, T 420, T 421, T 422, T 423, T 424, T 425, T 426, T 427, T 428, T 429, T 430, T 431, T 432, T 433, T 434, T 435, T 436, T 437, T 438, T 439, T 440, T 441, T 442, T 443, T 444, T 445, T 446, T 447, T 448, T 449, T 450, T 451, T 452, T 453, T 454, T 455, T 456, T 457, T 458, T 459, v460, T 461, T 462, T 463, T 464, T 465, T 466, T 467, T 468, T 469, T 470, T 471, T 472, T 473, T 474, T 475, T 476, T 477, T 478, T 479, T 480, T 481, T 482, T 483, T 484, T 485, T 486, T 487, T 488, T 489, T 490, T 491, T 492, T 493, T 494, T 495, T 496, T 497, T 498, T 499, T 500, T 501, T 502, T 503, T 504, T 505, T 506, T 507, T 508, T 509, T 510, T 511, T 512]
set_option maxRecDepth 100000 in
theorem arrN_e (f : Nat → Value) : arrN f (f 0) (f 1) (f 5) (f 6) (f 7) (f 8) (f 10) (f 12) (f 13) (f 14) (f 16) (f 17) (f 19) (f 21) (f 23) (f 25) (f 27) (f 28) (f 33) (f 460) = (Array.range 513).map f := by kernel_rfl
theorem arrN_mk {X : Array Value} {v0 v1 v5 v6 v7 v8 v10 v12 v13 v14 v16 v17 v19 v21 v23 v25 v27 v28 v33 v460 : Value} (h : X.size = 513) (h0 : X.getD 0 undef = v0) (h1 : X.getD 1 undef = v1) (h5 : X.getD 5 undef = v5) (h6 : X.getD 6 undef = v6) (h7 : X.getD 7 undef = v7) (h8 : X.getD 8 undef = v8) (h10 : X.getD 10 undef = v10) (h12 : X.getD 12 undef = v12) (h13 : X.getD 13 undef = v13) (h14 : X.getD 14 undef = v14) (h16 : X.getD 16 undef = v16) (h17 : X.getD 17 undef = v17) (h19 : X.getD 19 undef = v19) (h21 : X.getD 21 undef = v21) (h23 : X.getD 23 undef = v23) (h25 : X.getD 25 undef = v25) (h27 : X.getD 27 undef = v27) (h28 : X.getD 28 undef = v28) (h33 : X.getD 33 undef = v33) (h460 : X.getD 460 undef = v460) : ∃ T, (∀ i, T i = X.getD i undef) ∧ X = arrN T v0 v1 v5 v6 v7 v8 v10 v12 v13 v14 v16 v17 v19 v21 v23 v25 v27 v28 v33 v460 := by
  subst h0; subst h1; subst h5; subst h6; subst h7; subst h8; subst h10; subst h12; subst h13; subst h14; subst h16; subst h17; subst h19; subst h21; subst h23; subst h25; subst h27; subst h28; subst h33; subst h460
  exact ⟨fun i => X.getD i undef, fun _ => rfl, (arr_range X h).trans (arrN_e fun i => X.getD i undef).symm⟩
end Go.Proofs.Ytmmolicodlmlkaa.Ph
namespace Go.Proofs.Ytmmolicodlmlkaa.Ph
open Go.Conc Go.ConcN Go.RowKit
open Go.Proofs.Ytmmolicodlmlkaa.Rel
set_option linter.unusedVariables false
set_option linter.unusedSimpArgs false

/-- The operations behind the first k. -/
theorem wpOps_backH {P : Program} {ops : Array Oper} {Q : Exit → Act → World → Prop} {a : Act} {w : World} (k : Nat) {rest : List Nat} (hr : rest = List.range' k (ops.toList.drop k).length) (h : wpList P ops Q (ops.toList.drop k) a w) : wpOps P ops Q rest a w := by
  rw [hr]
  refine wpOps_from k _ rfl (fun j => ?_) h
  rw [List.getElem?_drop, Array.getElem?_toList]
theorem rd_cell {α : Type} {f : α → Value} {w : World} {b o k : Nat} {x : List α} {y : α} (h : RdL f w (some ⟨b, o, none⟩) x) (hk : x[k]? = some y) : w.cell? ⟨b, o + k, none⟩ = some (f y) := by
  obtain ⟨hl, e⟩ := List.getElem?_eq_some_iff.1 hk
  obtain ⟨b', o', h1, h2⟩ := h k hl
  injection h1 with h1
  injection h1 with h1 h3
  subst h1; subst h3
  rw [h2, e]
theorem rd_some {α : Type} {f : α → Value} {w : World} {A : Option Addr} {x : List α} (h : RdL f w A x) (hl : 0 < x.length) : ∃ b o, A = some ⟨b, o, none⟩ := by
  obtain ⟨b, o, h1, _⟩ := h 0 hl
  exact ⟨b, o, h1⟩
/-- What is read behind the calls. -/
structure FhRd (ks sl y : List Int) (n : Nat) (bk ok bs os_ br or_ bt ot : Nat) (Ay : Option Addr) (w : World) : Prop where
  K : RdL (Value.int .i64) w (some ⟨bk, ok, none⟩) ks
  S : RdL (Value.int .i64) w (some ⟨bs, os_, none⟩) sl
  Y : RdL (Value.int .u8) w Ay y
  R : ∀ i s, sl[i]? = some s → ∃ b o c, w.cell? ⟨br, or_ + i, none⟩ = some (.slice (some ⟨b, o, none⟩) n c) ∧ RdL (Value.int .i64) w (some ⟨b, o, none⟩) (rowH ks s.toNat n)
  T : ∀ i s, sl[i]? = some s → ∃ b o c, w.cell? ⟨bt, ot + i, none⟩ = some (.slice (some ⟨b, o, none⟩) n c) ∧ RdL (Value.int .i64) w (some ⟨b, o, none⟩) (rowH ks s.toNat n)
theorem FhRd.below {ks sl y : List Int} {n bk ok bs os_ br or_ bt ot : Nat} {Ay : Option Addr} {w w' : World} (h : FhRd ks sl y n bk ok bs os_ br or_ bt ot Ay w) (hb : Below w.heap.size w w') : FhRd ks sl y n bk ok bs os_ br or_ bt ot Ay w' :=
  ⟨h.K.below hb, h.S.below hb, h.Y.below hb,
   fun i s hs => by obtain ⟨b, o, c, h1, h2⟩ := h.R i s hs; exact ⟨b, o, c, (hb.cell (World.block_lt_of_cell? w _ h1)).trans h1, h2.below hb⟩,
   fun i s hs => by obtain ⟨b, o, c, h1, h2⟩ := h.T i s hs; exact ⟨b, o, c, (hb.cell (World.block_lt_of_cell? w _ h1)).trans h1, h2.below hb⟩⟩
/-- A loop's invariant, shut. -/
def Kept (R : Act → World → Prop) (a : Act) (w : World) : Prop := R a w
theorem Kept.mk {R : Act → World → Prop} {a : Act} {w : World} (h : R a w) : Kept R a w := h
theorem Kept.out {R : Act → World → Prop} {a : Act} {w : World} (h : Kept R a w) : R a w := h
section
variable {ks sl : List Int} {n size : Nat} (h : FhOk ks sl n size)
include h
theorem fh_k4 : ∀ y ∈ ks, 0 ≤ y ∧ y ≤ 4294967295 := fun y hy => by have := h.kb y hy; omega
theorem fh_w4 : ∀ y ∈ ks, W64 y := fun y hy => w64_of_bounds (by have := h.kb y hy; omega)
theorem fh_w5 : ∀ y ∈ sl, W64 y := fun y hy => w64_of_bounds (by have := h.sb y hy; omega)
theorem fhRow (A : Option Addr) (c s : Nat) (w : World) (hs : s ≤ 65535) (hx : RdL (Value.int .i64) w A ks) :
    Calls Try.prog 53 #[.slice A n c, .int .i64 s] w fun e w' => ∃ b o c', e = .returned (.tuple #[.slice (some ⟨b, o, none⟩) n c', .bool true]) ∧ RdL (Value.int .i64) w' (some ⟨b, o, none⟩) (rowH ks s n) ∧ Below w.heap.size w w' := by
  have h1 := h.kn; have h2 := h.n1; have h3 := h.n2
  have hc := Go.Proofs.Ytmmolicodlmlkaa.iHashRow_any A c ks s w hx (by omega)
  have hp : pHashRow ks s = (rowH ks s n, true) := by
    unfold pHashRow
    rw [h.kq, show inB (s : Int) 0 4294967295 = true from inB_iff.2 (by omega)]
    simp [h1]
  rw [hp, h1] at hc
  refine hc.mono fun e w' he => ?_
  obtain ⟨A', c', e1, e2, _, e3⟩ := he
  simp only [rowH_length] at e1
  obtain ⟨b, o, rfl⟩ := rd_some e2.rd (by rw [rowH_length]; omega)
  exact ⟨b, o, c', e1, e2.rd, e3⟩
theorem fhLeast (A : Option Addr) (c s : Nat) (w : World) (hs : s ≤ 65535) (hx : RdL (Value.int .i64) w A ks) :
    Calls Try.prog 54 #[.slice A n c, .int .i64 s] w fun e w' => e = .returned (.tuple #[.int .i64 (hashAt ks s (leastTo ks s n)), .int .i64 (leastTo ks s n), .bool true]) ∧ Below w.heap.size w w' := by
  have h1 := h.kn; have h2 := h.n1; have h3 := h.n2
  have hc := LeastHash_any A c ks s w hx (by omega) (by omega) (fh_k4 h) (by omega) h.kq
  rw [h1] at hc
  exact hc
theorem fhOrd (A : Option Addr) (c s : Nat) (w : World) (hs : s ≤ 65535) (hx : RdL (Value.int .i64) w A ks) :
    Calls Try.prog 14 #[.slice A n c, .int .i64 s] w fun e w' => ∃ b o c', e = .returned (.tuple #[.slice (some ⟨b, o, none⟩) n c', .bool true]) ∧ RdL (Value.int .i64) w' (some ⟨b, o, none⟩) (ordL (rowH ks s n) n) ∧ Below w.heap.size w w' := by
  have h1 := h.kn; have h2 := h.n1; have h3 := h.n2
  have hc := iOrderByHash_any A c ks s w hx (by omega) (fh_w4 h) (w64_of_bounds (by omega))
  have hp : pOrderByHash ks s = (ordL (rowH ks s n) n, true) := by
    unfold pOrderByHash
    rw [h.kq, show inB (s : Int) 0 4294967295 = true from inB_iff.2 (by omega)]
    simp [h1]
  rw [hp, h1] at hc
  refine hc.mono fun e w' he => ?_
  obtain ⟨A', c', e1, e2, _, e3⟩ := he
  simp only [ordL_length] at e1
  obtain ⟨b, o, rfl⟩ := rd_some e2.rd (by rw [ordL_length]; omega)
  exact ⟨b, o, c', e1, e2.rd, e3⟩
theorem fhSpread (A : Option Addr) (c s : Nat) (w : World) (hs : s ≤ 65535) (hx : RdL (Value.int .i64) w A ks) :
    Calls Try.prog 55 #[.slice A n c, .int .i64 s, .int .i64 size] w fun e w' => ∃ b o c', e = .returned (.tuple #[.slice (some ⟨b, o, none⟩) size c', .bool true]) ∧ RdL (Value.int .i64) w' (some ⟨b, o, none⟩) (spreadL ks s size) ∧ Below w.heap.size w w' := by
  have h1 := h.kn; have h2 := h.n1; have h3 := h.n2; have h4 := h.z1; have h5 := h.z2
  have hv : vSpread ks s size = true := by
    unfold vSpread
    rw [show keysB ks = true from h.kq, show inB (s : Int) 0 4294967295 = true from inB_iff.2 (by omega), show inB (size : Int) 1 256 = true from inB_iff.2 (by omega)]; rfl
  have hc := iSpread_yes A c ks s size w hx (by omega) hv
  rw [h1] at hc
  refine hc.mono fun e w' he => ?_
  obtain ⟨A', c', e1, e2, e3⟩ := he
  obtain ⟨b, o, rfl⟩ := rd_some e2.rd (by rw [spreadL_length]; omega)
  exact ⟨b, o, c', e1, e2.rd, e3⟩
theorem fhMeet (A : Option Addr) (c s : Nat) (w : World) (hs : s ≤ 65535) (hx : RdL (Value.int .i64) w A ks) :
    Calls Try.prog 56 #[.slice A n c, .int .i64 s, .int .i64 size] w fun e w' => e = .returned (.tuple #[.int .i64 ((n : Int) - (nzTo (spreadL ks s size) size : Int)), .bool true]) ∧ Below w.heap.size w w' := by
  have h1 := h.kn; have h2 := h.n1; have h3 := h.n2; have h4 := h.z1; have h5 := h.z2
  have hc := MeetingsOf_any A c ks s size w hx (by omega) (fh_k4 h) (by omega) h.kq h4 (by omega)
  rw [h1] at hc
  refine hc.mono fun e w' he => ?_
  obtain ⟨D, out, e1, e2, e3⟩ := he
  have := met_nz (by omega) e2
  rw [h1] at this
  rw [← this]
  exact ⟨e1, e3⟩
theorem fhChi (A : Option Addr) (c s : Nat) (w : World) (hs : s ≤ 65535) (hx : RdL (Value.int .i64) w A ks) :
    ∃ b, (FloatKind.f32.format.order b 0 == some .lt) = false ∧ ∀ w, RdL (Value.int .i64) w A ks → Calls Try.prog 57 #[.slice A n c, .int .i64 s, .int .i64 size] w fun e w' => e = .returned (.tuple #[.float .f32 b, .bool true]) ∧ Below w.heap.size w w' := by
  have h1 := h.kn; have h2 := h.n1; have h3 := h.n2; have h4 := h.z1; have h5 := h.z2
  obtain ⟨k1, k2⟩ := h.chi hs
  refine ⟨_, k2, fun w hx => ?_⟩
  have hc := iChiOfKeys_any A c ks s size w hx (by omega) (fh_w4 h) (w64_of_bounds (by omega)) (w64_of_bounds (by omega))
  rw [h1, k1] at hc
  exact hc
end
set_option maxRecDepth 100000 in
set_option maxHeartbeats 16000000 in
theorem fh_tail (T : Nat → Value) (v0 : Value) (ks sl y : List Int) (n : Nat) (bk ok ck bs os_ cs br or_ cr bt ot ct : Nat) (Ay : Option Addr) (cy : Nat) (w : World) (hy : Byt y) (hyn : y.length ≤ 1048576) (hok : FhOk ks sl n 1)
    (hR : FhRd ks sl y n bk ok bs os_ br or_ bt ot Ay w) :
    EndsM Try.prog fy7h [6, 7, 8, 9, 10] 10 fc8h (fun u w' => u = .bool true)
      ⟨arrH1 T v0 (.slice Ay y.length cy) (.int .i64 (n : Nat)) (.slice (some ⟨bk, ok, none⟩) n ck) (.slice (some ⟨bs, os_, none⟩) sl.length cs) (.slice (some ⟨br, or_, none⟩) sl.length cr) (.bool true) (.tuple #[.slice (some ⟨bt, ot, none⟩) sl.length ct, .bool true]), []⟩ w := by
  have n1 := hok.n1
  have n2 := hok.n2
  have s1 := hok.s1
  have s2 := hok.s2
  have OK1 := hid hok
  have BY := hid hy
  have R0 := hid hR
  clear hok hy hR
  refine endsM_of (wpOps_backH 6 (by kernel_rfl) ?_)
  simp only [fy7h, fc8h, Try.f10, List.drop_succ_cons, List.drop_zero, List.append_eq, List.cons_append, List.nil_append]
  go_wp2
  simp only [Rel.Ends]
  have CA : Hid (Calls Try.prog 51 #[.slice Ay y.length cy, .int .i64 43, .int .i64 200] w fun e w' => (∃ r, e = .returned (.int .i64 r) ∧ 0 ≤ r ∧ r < 200) ∧ w = w') := r8At_any Ay cy y 43 200 w R0.out.Y BY.out hyn (by decide) (by decide) (by decide) (by decide)
  go_wp2_with fail
  refine CA.out.mono ?_
  rintro e w' ⟨⟨r, rfl, hr0, hr1⟩, rfl⟩
  obtain ⟨size, hsize⟩ : ∃ size : Nat, (1 : Int) + r = size := ⟨(1 + r).toNat, by omega⟩
  have q2 : IntKind.i64.wrap (1 + r) = (size : Int) := by rw [IntKind.wrap_i64]; omega
  have z1 : 1 ≤ size ∧ size ≤ 200 := by omega
  have OK : Hid (FhOk ks sl n size) := ⟨OK1.out.kn, n1, n2, s1, s2, z1.1, z1.2, OK1.out.kb, OK1.out.sb⟩
  clear CA BY OK1 hsize hr0 hr1
  go_wp2
  clear q2
  refine wp_loop (Kept fun a' w' => ∃ i : Nat, i ≤ sl.length ∧ Hid (Below w.heap.size w w') ∧ a'.defers = [] ∧ ∃ T, a'.tmps = arrL T v0 (.slice Ay y.length cy) (.int .i64 (n : Nat)) (.slice (some ⟨bk, ok, none⟩) n ck) (.slice (some ⟨bs, os_, none⟩) sl.length cs) (.slice (some ⟨br, or_, none⟩) sl.length cr) (.slice (some ⟨bt, ot, none⟩) sl.length ct) (.int .i64 (size : Nat)) (.int .i64 (i : Nat))) (fun a' w' => sl.length - (intOf (a'.tmps.getD 13 undef)).toNat) ?_ ?_
  · exact Kept.mk ⟨0, by omega, Below.refl _ _, rfl, arrL_mk (by kernel_rfl) (by kernel_rfl) (by kernel_rfl) (by kernel_rfl) (by kernel_rfl) (by kernel_rfl) (by kernel_rfl) (by kernel_rfl) (by kernel_rfl) (by kernel_rfl)⟩
  · rintro ⟨tm, df⟩ wr hinv
    obtain ⟨i, hi, hW, hd, T, ht⟩ := hinv.out
    clear hinv
    simp only at hd ht
    subst hd; subst ht
    by_cases hlt : i < sl.length
    · have hil : (i : Int) < (sl.length : Int) := by omega
      have hi0 : (0 : Int) ≤ (i : Int) := by omega
      obtain ⟨s, hs, hsb⟩ : ∃ s : Nat, sl[i]? = some (s : Int) ∧ s ≤ 65535 := by
        have h1 := OK.out.sb sl[i] (List.getElem_mem hlt)
        exact ⟨sl[i].toNat, by rw [List.getElem?_eq_getElem hlt]; congr 1; omega, by omega⟩
      have HS := hid hs
      clear hs
      have R1 := hid (R0.out.below hW.out)
      have c1 := rd_cell R1.out.S HS.out
      go_wp2_with fail
      refine (fhRow OK.out _ ck s wr hsb R1.out.K).mono ?_
      rintro e w1 ⟨b1, o1, d1, rfl, r1, hb⟩
      have P1 := hid r1
      have R2 := hid (R1.out.below hb)
      have W1 := hid (hW.out.trans (hb.mono hW.out.size))
      clear hb r1 c1 R1 hW
      have c1 := rd_cell R2.out.S HS.out
      go_wp2_with fail
      refine (fhLeast OK.out _ ck s w1 hsb R2.out.K).mono ?_
      rintro e w2 ⟨rfl, hb⟩
      have R3 := hid (R2.out.below hb)
      have P2 := hid (P1.out.below hb)
      have W2 := hid (W1.out.trans (hb.mono W1.out.size))
      clear hb c1 R2 P1 W1
      have c1 := rd_cell R3.out.S HS.out
      go_wp2_with fail
      refine (fhOrd OK.out _ ck s w2 hsb R3.out.K).mono ?_
      rintro e w3 ⟨b2, o2, d2, rfl, r2, hb⟩
      have R4 := hid (R3.out.below hb)
      have P3 := hid (P2.out.below hb)
      have Q3 := hid r2
      have W3 := hid (W2.out.trans (hb.mono W2.out.size))
      clear hb c1 R3 P2 W2 r2
      have c1 := rd_cell R4.out.S HS.out
      go_wp2_with fail
      refine (fhSpread OK.out _ ck s w3 hsb R4.out.K).mono ?_
      rintro e w4 ⟨b3, o3, d3, rfl, r3, hb⟩
      have R5 := hid (R4.out.below hb)
      have P4 := hid (P3.out.below hb)
      have Q4 := hid (Q3.out.below hb)
      have U4 := hid r3
      have W4 := hid (W3.out.trans (hb.mono W3.out.size))
      clear hb c1 R4 P3 Q3 W3 r3
      have c1 := rd_cell R5.out.S HS.out
      go_wp2_with fail
      refine (fhMeet OK.out _ ck s w4 hsb R5.out.K).mono ?_
      rintro e w5 ⟨rfl, hb⟩
      have R6 := hid (R5.out.below hb)
      have P5 := hid (P4.out.below hb)
      have Q5 := hid (Q4.out.below hb)
      have U5 := hid (U4.out.below hb)
      have W5 := hid (W4.out.trans (hb.mono W4.out.size))
      clear hb c1 R5 P4 Q4 U4 W4
      obtain ⟨chi, hchi, CC⟩ := fhChi OK.out (some ⟨bk, ok, none⟩) ck s w5 hsb R6.out.K
      have HC := hid CC
      clear CC
      have c1 := rd_cell R6.out.S HS.out
      go_wp2_with fail
      refine (HC.out w5 R6.out.K).mono ?_
      rintro e w6 ⟨rfl, hb⟩
      have R7 := hid (R6.out.below hb)
      have P6 := hid (P5.out.below hb)
      have Q6 := hid (Q5.out.below hb)
      have U6 := hid (U5.out.below hb)
      have W6 := hid (W5.out.trans (hb.mono W5.out.size))
      clear hb c1 R6 P5 Q5 U5 W5 HC
      have hnz := nzTo_le (spreadL ks s size) size
      obtain ⟨nz, hnze⟩ : ∃ z, z = nzTo (spreadL ks s size) size := ⟨_, rfl⟩
      have NZ := hid hnze
      rw [← hnze] at hnz ⊢
      clear hnze
      have hL1 := leastTo_lt ks s (n := n) (by omega)
      have LS := hid (leastTo_spec ks s n)
      have LF := hid (ord_first (x := ks) (s := s) (n := n) (by omega))
      obtain ⟨L, hLe⟩ : ∃ L, L = leastTo ks s n := ⟨_, rfl⟩
      rw [← hLe] at hL1 LS LF ⊢
      clear hLe
      obtain ⟨lh, hlh⟩ : ∃ z, z = hashAt ks s L := ⟨_, rfl⟩
      have LH1 := hid hlh
      rw [← hlh] at LS ⊢
      clear hlh
      obtain ⟨b4, o4, d4, c4, P7⟩ := R7.out.R i s HS.out
      obtain ⟨b5, o5, d5, c5, P8⟩ := R7.out.T i s HS.out
      rw [Int.toNat_natCast] at P7 P8
      have X4 := hid P7
      have X5 := hid P8
      clear P7 P8
      have f1 : w6.cell? ⟨b1, o1 + L, none⟩ = some (.int .i64 (lh : Nat)) := by rw [LH1.out]; exact rd_cell P6.out (rowH_at hL1)
      have f2 : w6.cell? ⟨b2, o2, none⟩ = some (.int .i64 (L : Nat)) := rd_cell (k := 0) Q6.out LF.out
      have i1 : decide ((L : Int) < 0) = false := decide_eq_false (by omega)
      have i2 : decide ((n : Int) ≤ (L : Int)) = false := decide_eq_false (by omega)
      have i5 : decide (n ≤ L) = false := decide_eq_false (by omega)
      have i3 : (L : Int) < (n : Int) := by omega
      have i4 : (0 : Int) < (n : Int) := by omega
      have hmk := run_make_row' (P := Try.prog) 22 2 (.int .i64 0) 8 Try.underlying22 (by kernel_rfl) rfl .i64 .i64 size (by omega) (by omega)
      go_upto_region 20 with (fail)
      obtain ⟨WZ, hWZ⟩ : ∃ WZ : World, WZ = w6 := ⟨_, rfl⟩
      go_cut [244] from 159 to 244 (fun v wx => v = .bool false ∧ wx = w6)
      case first =>
        go_wp2
        go_meet
        case rel => exact ⟨rfl, rfl⟩
      case rest =>
      obtain ⟨rfl, hwc⟩ := hcut
      replace hwc := hwc.symm
      subst hwc
      clear f1 f2 i1 i2 i3 i4 i5 hchi c4 c5
      obtain ⟨w7, hw7⟩ : ∃ w7, w7 = w6.alloc (.cells (madeCells #[.int .i64 0] size) 2) := ⟨_, rfl⟩
      have O7 : Hid (OwnS (Value.int .i64) w7 w6.heap.size 2 (some ⟨w6.heap.size, 0, none⟩) (List.replicate size 0)) := by
        rw [hw7]
        refine OwnS.of_blk ?_ (Nat.le_refl _)
        rw [madeCells_one, List.map_replicate]
        exact Blk.new _ _ _
      have S7 : Hid (Below w6.heap.size w6 w7) := by rw [hw7]; exact below_a1 _ _
      go_wp2
      rw [← hw7]
      clear hw7 hmk
      have cnt_mk : ∀ {X : Array Value} {k : Nat}, X.size = 513 → (∃ T, X = arrM T v0 (.slice Ay y.length cy) (.int .i64 (n : Nat)) (.slice (some ⟨bk, ok, none⟩) n ck) (.slice (some ⟨bs, os_, none⟩) sl.length cs) (.slice (some ⟨br, or_, none⟩) sl.length cr) (.slice (some ⟨bt, ot, none⟩) sl.length ct) (.int .i64 (size : Nat)) (.int .i64 (i : Nat)) (.slice (some ⟨b1, o1, none⟩) n d1) (.int .i64 (lh : Nat)) (.int .i64 (L : Nat)) (.slice (some ⟨b2, o2, none⟩) n d2) (.slice (some ⟨b3, o3, none⟩) size d3) (.int .i64 ((n : Int) - (nz : Int))) (.float .f32 chi) (.slice (some ⟨w6.heap.size, 0, none⟩) size size) (.int .i64 (k : Nat))) → True := fun _ _ => trivial
      clear cnt_mk
      refine wp_loop (Kept fun a' w' => ∃ k : Nat, k ≤ n ∧ Hid (OwnS (Value.int .i64) w' w6.heap.size 2 (some ⟨w6.heap.size, 0, none⟩) (addAt 1 (List.replicate size 0) ((spreadP ks s size).take k))) ∧ Hid (Below w6.heap.size w6 w') ∧ a'.defers = [] ∧ ∃ T, a'.tmps = arrM T v0 (.slice Ay y.length cy) (.int .i64 (n : Nat)) (.slice (some ⟨bk, ok, none⟩) n ck) (.slice (some ⟨bs, os_, none⟩) sl.length cs) (.slice (some ⟨br, or_, none⟩) sl.length cr) (.slice (some ⟨bt, ot, none⟩) sl.length ct) (.int .i64 (size : Nat)) (.int .i64 (i : Nat)) (.slice (some ⟨b1, o1, none⟩) n d1) (.int .i64 (lh : Nat)) (.int .i64 (L : Nat)) (.slice (some ⟨b2, o2, none⟩) n d2) (.slice (some ⟨b3, o3, none⟩) size d3) (.int .i64 ((n : Int) - (nz : Int))) (.float .f32 chi) (.slice (some ⟨w6.heap.size, 0, none⟩) size size) (.int .i64 (k : Nat))) (fun a' w' => n - (intOf (a'.tmps.getD 28 undef)).toNat) ?_ ?_
      · exact Kept.mk ⟨0, by omega, by rw [addAt_zero]; exact O7, S7, rfl, arrM_mk (by kernel_rfl) (by kernel_rfl) (by kernel_rfl) (by kernel_rfl) (by kernel_rfl) (by kernel_rfl) (by kernel_rfl) (by kernel_rfl) (by kernel_rfl) (by kernel_rfl) (by kernel_rfl) (by kernel_rfl) (by kernel_rfl) (by kernel_rfl) (by kernel_rfl) (by kernel_rfl) (by kernel_rfl) (by kernel_rfl) (by kernel_rfl)⟩
      · rintro ⟨tm, df⟩ wr hinv
        obtain ⟨k, hk, hO, hV, hd, T, ht⟩ := hinv.out
        clear hinv
        simp only at hd ht
        subst hd; subst ht
        clear O7 S7
        by_cases hkl : k < n
        · have hkl1 : (k : Int) < (n : Int) := by omega
          have hk0 : (0 : Int) ≤ (k : Int) := by omega
          obtain ⟨yn, hyk, hyb⟩ : ∃ yn : Nat, ks[k]? = some (yn : Int) ∧ yn ≤ 65535 := by
            have hl : k < ks.length := by have := OK.out.kn; omega
            have h1 := OK.out.kb ks[k] (List.getElem_mem hl)
            exact ⟨ks[k].toNat, by rw [List.getElem?_eq_getElem hl]; congr 1; omega, by omega⟩
          have YK := hid hyk
          clear hyk
          obtain ⟨hh, hhe⟩ : ∃ z, z = hashN yn s := ⟨_, rfl⟩
          have hhl : hh < 4294967296 := hhe ▸ hashN_lt yn s
          obtain ⟨bl, hble⟩ : ∃ z, z = belowN yn s size := ⟨_, rfl⟩
          have hbl : bl < size := hble ▸ belowN_lt yn s size (by omega)
          obtain ⟨sg, hsg⟩ : ∃ z, z = sgnN yn s := ⟨_, rfl⟩
          have HA : Hid (hashAt ks s k = hh) := by show _ = _; unfold hashAt; rw [getD_of (hid YK.out), hhe]; simp
          have SG : Hid (sg = if hh < 2147483648 then 1 else -1) := by show _ = _; rw [hsg, hhe]; rfl
          have SP : Hid ((spreadP ks s size)[k]? = some (bl : Int)) := by
            show _ = _
            rw [spreadP_at (by have := OK.out.kn; omega), getD_of (hid YK.out), hble]; simp
          have C1 : Hid (∀ w : World, Calls Try.prog 58 #[.int .i64 (yn : Int), .int .i64 (s : Int)] w fun e w' => e = .returned (.tuple #[.int .i64 hh, .bool true]) ∧ w' = w) := fun w => by rw [hhe]; exact (HashOf_any yn s w (by omega) (by omega)).mono fun _ _ ⟨h1, h2⟩ => ⟨h1, h2.symm⟩
          have C2 : Hid (∀ w : World, Calls Try.prog 59 #[.int .i64 (yn : Int), .int .i64 (s : Int)] w fun e w' => e = .returned (.tuple #[.int .i64 sg, .bool true]) ∧ w' = w) := fun w => by rw [hsg]; exact (SignOf_any yn s w (by omega) (by omega)).mono fun _ _ ⟨h1, h2⟩ => ⟨h1, h2.symm⟩
          have C3 : Hid (∀ w : World, Calls Try.prog 60 #[.int .i64 (yn : Int), .int .i64 (s : Int), .int .i64 (size : Int)] w fun e w' => e = .returned (.tuple #[.int .i64 bl, .bool true]) ∧ w' = w) := fun w => by rw [hble]; exact (BelowHash_any yn s size w (by omega) (by omega) z1.1 (by omega)).mono fun _ _ ⟨h1, h2⟩ => ⟨h1, h2.symm⟩
          have C4 : Hid (∀ w : World, Calls Try.prog 61 #[.int .i64 (yn : Int), .int .i64 (s : Int)] w fun e w' => e = .returned (.tuple #[.float .f32 (shareN (hh / 256)), .bool true]) ∧ w' = w) := fun w => by rw [hhe]; exact (ShareHash_any yn s w (by omega) (by omega)).mono fun _ _ ⟨h1, h2⟩ => ⟨h1, h2.symm⟩
          have C5 : Hid (∀ w : World, Calls Try.prog 62 #[.int .i64 (yn : Int), .int .i64 (s : Int), .int .i64 32] w fun e w' => ∃ A c xs, e = .returned (.tuple #[.slice A 32 c, .bool true]) ∧ xs.length = 32 ∧ xs[0]? = some (decide (2147483648 ≤ hh)) ∧ RdL Value.bool w' A xs ∧ Below w.heap.size w w') := fun w => by rw [hhe]; exact BitsOfHash_any yn s w (by omega) (by omega)
          obtain ⟨sh, hshe⟩ : ∃ z, z = shareN (hh / 256) := ⟨_, rfl⟩
          rw [← hshe] at C4
          have SHE := hid hshe
          clear hhe hble hsg hshe
          have RA := hid (R7.out.below hV.out)
          have c1 := rd_cell RA.out.K YK.out
          have c2 := rd_cell RA.out.S HS.out
          go_wp2
          go_quiet ((go_at_call 58; exact Calls.quiet_of_same (C1.out _)))
          have Rb := hid (RA.out.below (below_drewN (Below.refl _ wr) nq))
          have Ob := hid (hO.out.below (below_drewN (Below.refl _ wr) nq))
          have Vb := hid (below_drewN hV.out nq)
          clear c1 c2 RA hO hV C1
          generalize wr.drewN nq = wb at Rb Ob Vb ⊢
          clear wr
          have c1 := rd_cell Rb.out.K YK.out
          have c2 := rd_cell Rb.out.S HS.out
          go_wp2
          go_quiet ((go_at_call 59; exact Calls.quiet_of_same (C2.out _)))
          have Rc := hid (Rb.out.below (below_drewN (Below.refl _ wb) nq))
          have Oc := hid (Ob.out.below (below_drewN (Below.refl _ wb) nq))
          have Vc := hid (below_drewN Vb.out nq)
          clear c1 c2 Rb Ob Vb C2
          generalize wb.drewN nq = wc at Rc Oc Vc ⊢
          clear wb
          have c1 := rd_cell Rc.out.K YK.out
          have c2 := rd_cell Rc.out.S HS.out
          go_wp2
          go_quiet ((go_at_call 60; exact Calls.quiet_of_same (C3.out _)))
          have Rd := hid (Rc.out.below (below_drewN (Below.refl _ wc) nq))
          have Od := hid (Oc.out.below (below_drewN (Below.refl _ wc) nq))
          have Vd := hid (below_drewN Vc.out nq)
          clear c1 c2 Rc Oc Vc C3
          generalize wc.drewN nq = wd at Rd Od Vd ⊢
          clear wc
          have c1 := rd_cell Rd.out.K YK.out
          have c2 := rd_cell Rd.out.S HS.out
          go_wp2
          go_quiet ((go_at_call 61; exact Calls.quiet_of_same (C4.out _)))
          have Re := hid (Rd.out.below (below_drewN (Below.refl _ wd) nq))
          have Oe := hid (Od.out.below (below_drewN (Below.refl _ wd) nq))
          have Ve := hid (below_drewN Vd.out nq)
          clear c1 c2 Rd Od Vd C4
          generalize wd.drewN nq = we at Re Oe Ve ⊢
          clear wd
          have c1 := rd_cell Re.out.K YK.out
          have c2 := rd_cell Re.out.S HS.out
          have hbk : bk < we.heap.size := World.block_lt_of_cell? we _ c1
          have hbs : bs < we.heap.size := World.block_lt_of_cell? we _ c2
          go_wp2_with fail
          go_cut [37, 38] from 301 to 312 (fun vq vb wx => ∃ (Ab : Option Addr) (cb : Nat) (xs : List Bool), vq = .slice Ab 32 cb ∧ vb = .bool true ∧ Hid (xs.length = 32) ∧ Hid (xs[0]? = some (decide (2147483648 ≤ hh))) ∧ Hid (RdL Value.bool wx Ab xs) ∧ Hid (Below we.heap.size we wx))
          case first =>
            have H0 := hid (Below.refl we.heap.size we)
            go_region_held3 (fun w' => w'.cell? ⟨bk, ok + k, none⟩ = some (.int .i64 (yn : Nat)) ∧ w'.cell? ⟨bs, os_ + i, none⟩ = some (.int .i64 (s : Nat))) (first | go_keep | exact hS)
              (first
                | (go_at_call 62
                   refine (C5.out _).mono ?_
                   rintro e W20 ⟨A1, cb1, xs, rfl, hx1, hx2, hx3, hb⟩
                   have H22 : Hid (Below we.heap.size we W20) := below_next (by repeat first | with_reducible exact Below.refl _ _ | (refine Hid.out ?_; assumption) | refine below_drewN ?_ _ | refine below_drew1 ?_ | refine below_alloc_ ?_ _) hb
                   have HX1 := hid hx1
                   have HX2 := hid hx2
                   have HX3 := hid hx3
                   have hS := And.intro ((H22.out.cell (p := ⟨bk, ok + k, none⟩) hbk).trans c1) ((H22.out.cell (p := ⟨bs, os_ + i, none⟩) hbs).trans c2)
                   clear hb hx1 hx2 hx3))
            all_goals
              (go_wp2_with fail
               go_meet
               exact ⟨_, _, _, rfl, rfl, HX1, HX2, HX3, H22⟩)
          case' rest =>
          obtain ⟨Ab, cb, xs, rfl, rfl, B1, B2, B3, B4⟩ := hcut
          have RF := hid (Re.out.below B4.out)
          have OF := hid (Oe.out.below B4.out)
          have VF := hid (Ve.out.trans (B4.out.mono Ve.out.size))
          have PF := hid (P6.out.below VF.out)
          have QF := hid (Q6.out.below VF.out)
          clear Re Oe Ve B4 c1 c2 C5 hbk hbs
          go_upto_region 31 with (fail)
          obtain ⟨ba, oa, rfl⟩ := rd_some B3.out (by rw [B1.out]; omega)
          have g1 : wc.cell? ⟨ba, oa, none⟩ = some (.bool (decide (2147483648 ≤ hh))) := rd_cell (k := 0) B3.out B2.out
          obtain ⟨b6, o6, d6, g2, p6⟩ := RF.out.R i s HS.out
          obtain ⟨b7, o7, d7, g3, p7⟩ := RF.out.T i s HS.out
          rw [Int.toNat_natCast] at p6 p7
          have hrk : (rowH ks s n)[k]? = some (hh : Int) := by rw [rowH_at hkl, HA.out]
          obtain ⟨j, hj, hjl⟩ := ord_at (row := rowH ks s n) hkl
          have l1 := (LS.out k hkl).1
          rw [HA.out] at l1
          obtain ⟨t1, t2, t3, q, t4, t5⟩ := share_ok (n := hh / 256) (by omega)
          rw [← SHE.out] at t1 t2 t3 t4
          have t6 : FloatKind.f32.format.order q (floatOfInt .f32 ((hh : Int) / 256)) = some .eq := by
            have := beq_iff_eq.1 t5
            rw [Int.natCast_ediv] at this
            exact this
          have hin : inB (hh : Int) 0 4294967295 = true := inB_iff.2 (by omega)
          refine wp_code_eq (c := Code.region 31 r31 true) (by kernel_rfl) ?_
          refine reg31 (n := n) (m := sl.length) (size := size) (i := i) (k := k) (b1 := b1) (o1 := o1) (d1 := d1) (lh := lh) (b2 := b2) (o2 := o2) (d2 := d2) (br := br) (or_ := or_) (cr := cr) (bt := bt) (ot := ot) (ct := ct) (b6 := b6) (o6 := o6) (d6 := d6) (b7 := b7) (o7 := o7) (d7 := d7) (hh := hh) (bl := bl) (sh := sh) (ba := ba) (oa := oa) (cb := cb) (j := j) (q := q) (sg := sg)
            (by omega) hkl hlt hjl g1 g2 g3 (rd_cell p6 hrk) (rd_cell p7 hrk) (rd_cell PF.out hrk) (rd_cell QF.out hj) l1 hbl hhl SG.out (fun hz => ?_) t6 t2 t3 (fun t w => run_float_arith w .mul t .f32 _ _ _ t4) (fun w => (IsKey_any (hh : Int) w).mono fun _ _ ⟨h1, h2⟩ => ⟨by rw [h1, hin], h2.symm⟩)
            (by kernel_rfl) (by kernel_rfl) (by kernel_rfl) (by kernel_rfl) (by kernel_rfl) (by kernel_rfl) (by kernel_rfl) (by kernel_rfl) (by kernel_rfl) (by kernel_rfl) (by kernel_rfl) (by kernel_rfl) (by kernel_rfl) (by kernel_rfl) (by kernel_rfl) (by kernel_rfl) (by kernel_rfl) (by kernel_rfl) (by kernel_rfl) (by kernel_rfl) ?_
          · obtain ⟨j', hj', hjl'⟩ := ord_at (row := rowH ks s n) (show k - 1 < n by omega)
            have st := ord_step hj' (show (ordL (rowH ks s n) n)[k - 1 + 1]? = some (j : Int) by rw [show k - 1 + 1 = k by omega]; exact hj)
            rw [rowH_getD hjl', rowH_getD hjl] at st
            exact ⟨j', hashAt ks s j, hashAt ks s j', hjl', rd_cell QF.out hj', rd_cell PF.out (rowH_at (x := ks) (salt := s) hjl), rd_cell PF.out (rowH_at (x := ks) (salt := s) hjl'), by omega⟩
          intro X nq X0 X460 e0 e1 e5 e6 e7 e8 e10 e12 e13 e14 e16 e17 e19 e21 e23 e25 e27 e28 e33
          obtain ⟨TX, -, hX⟩ := arrN_mk X0 (e0.trans (by kernel_rfl : _ = v0)) (e1.trans (by kernel_rfl : _ = Value.slice Ay y.length cy)) (e5.trans (by kernel_rfl : _ = Value.int .i64 (n : Nat))) (e6.trans (by kernel_rfl : _ = Value.slice (some ⟨bk, ok, none⟩) n ck)) (e7.trans (by kernel_rfl : _ = Value.slice (some ⟨bs, os_, none⟩) sl.length cs)) (e8.trans (by kernel_rfl : _ = Value.slice (some ⟨br, or_, none⟩) sl.length cr)) (e10.trans (by kernel_rfl : _ = Value.slice (some ⟨bt, ot, none⟩) sl.length ct)) (e12.trans (by kernel_rfl : _ = Value.int .i64 (size : Nat))) (e13.trans (by kernel_rfl : _ = Value.int .i64 (i : Nat))) (e14.trans (by kernel_rfl : _ = Value.slice (some ⟨b1, o1, none⟩) n d1)) (e16.trans (by kernel_rfl : _ = Value.int .i64 (lh : Nat))) (e17.trans (by kernel_rfl : _ = Value.int .i64 (L : Nat))) (e19.trans (by kernel_rfl : _ = Value.slice (some ⟨b2, o2, none⟩) n d2)) (e21.trans (by kernel_rfl : _ = Value.slice (some ⟨b3, o3, none⟩) size d3)) (e23.trans (by kernel_rfl : _ = Value.int .i64 ((n : Int) - (nz : Int)))) (e25.trans (by kernel_rfl : _ = Value.float .f32 chi)) (e27.trans (by kernel_rfl : _ = Value.slice (some ⟨w6.heap.size, 0, none⟩) size size)) (e28.trans (by kernel_rfl : _ = Value.int .i64 (k : Nat))) (e33.trans (by kernel_rfl : _ = Value.int .i64 (bl : Nat))) X460
          subst hX
          have RG := hid (RF.out.below (below_drewN (Below.refl _ wc) nq))
          have OG := hid (OF.out.below (below_drewN (Below.refl _ wc) nq))
          have VG := hid (below_drewN VF.out nq)
          clear e0 e1 e5 e6 e7 e8 e10 e12 e13 e14 e16 e17 e19 e21 e23 e25 e27 e28 e33 X0 X460 g1 g2 g3 p6 p7 hrk hj hjl l1 t1 t2 t3 t4 t5 t6 hin RF OF VF PF QF B1 B2 B3
          generalize wc.drewN nq = wg at RG OG VG ⊢
          dsimp only [arrN]
          obtain ⟨g', u, hg', hgB, hcu, hfu, hum, hput⟩ := OG.out.put (j := bl) (by rw [addAt_length, List.length_replicate]; exact hbl)
          injection hg' with hg'
          injection hg' with hg'
          subst hg'
          have hub := take_bound (l := spreadP ks s size) (n := size) (k := k) (by rw [spreadP_length]; have := OK.out.kn; omega) u (List.mem_of_getElem? hum.out)
          have hO2 := hput (u + 1)
          rw [addAt_succ SP hum] at hO2
          have HV2 := hid (VG.out.setCell (p := ⟨w6.heap.size, bl, none⟩) (Nat.le_refl _) (.int .i64 (u + 1)))
          have hm1 : (bl : Int) < (size : Int) := by omega
          have hm0 : (0 : Int) ≤ (bl : Int) := by omega
          have hu1 := hub.1
          have hu2 := hub.2
          clear hput hgB hub hum OG VG RG SP SG HA SHE hbl hhl
          go_wp2
          exact ⟨Kept.mk ⟨k + 1, by omega, hO2, HV2, rfl, arrM_mk (by kernel_rfl) (by kernel_rfl) (by kernel_rfl) (by kernel_rfl) (by kernel_rfl) (by kernel_rfl) (by kernel_rfl) (by kernel_rfl) (by kernel_rfl) (by kernel_rfl) (by kernel_rfl) (by kernel_rfl) (by kernel_rfl) (by kernel_rfl) (by kernel_rfl) (by kernel_rfl) (by kernel_rfl) (by kernel_rfl) (by kernel_rfl)⟩, by simp [intOf]; omega⟩
        · obtain rfl : k = n := by omega
          have hkl1 : ¬ (k : Int) < (k : Int) := by omega
          have hO2 := hO.out
          rw [List.take_of_length_le (by rw [spreadP_length]; have := OK.out.kn; omega)] at hO2
          have RH := hid (R7.out.below hV.out)
          have UH := hid (U6.out.below hV.out)
          have OH : Hid (RdL (Value.int .i64) wr (some ⟨w6.heap.size, 0, none⟩) (spreadL ks s size)) := hO2.rd
          clear hO hO2
          go_wp2
          go_loopw [39, 40] (fun d t wx => ∃ m : Nat, m ≤ size ∧ t = .int .i64 m ∧ d = .int .i64 (nzTo (spreadL ks s size) m : Nat) ∧ Hid (Below wr.heap.size wr wx)) (fun _ t _ => size - (intOf t).toNat)
          case atStart => exact ⟨0, by omega, rfl, rfl, Below.refl _ _⟩
          case round =>
            obtain ⟨m, hm, rfl, rfl, hX⟩ := hrel
            by_cases hml : m < size
            · have hml1 : (m : Int) < (size : Int) := by omega
              have hm0 : (0 : Int) ≤ (m : Int) := by omega
              obtain ⟨z, hz⟩ : ∃ z, (spreadL ks s size)[m]? = some z := ⟨_, List.getElem?_eq_getElem (by rw [spreadL_length]; exact hml)⟩
              have c1 : wr.cell? ⟨w6.heap.size, m, none⟩ = some (.int .i64 z) := by
                have := rd_cell (OH.out.below hX.out) hz
                simpa using this
              have c2 := rd_cell (UH.out.below hX.out) hz
              have hsu := nzTo_succ (spreadL ks s size) m
              have hzg : (spreadL ks s size).getD m 0 = z := getD_of (hid hz)
              rw [hzg] at hsu
              have hql := nzTo_le (spreadL ks s size) m
              have HSU := hid hsu
              obtain ⟨q, hqe⟩ : ∃ q, q = nzTo (spreadL ks s size) m := ⟨_, rfl⟩
              rw [← hqe] at HSU hql ⊢
              have hX2 := hX
              clear hsu hzg hz hqe
              by_cases hzp : 0 < z
              · have d1 : decide (0 < z) = true := decide_eq_true hzp
                have q4 : IntKind.i64.wrap ((q : Int) + 1) = (q : Int) + 1 := by rw [IntKind.wrap_i64]; omega
                go_wp2
                go_quiet (fail)
                go_wp2
                exact ⟨⟨m + 1, by omega, by go_num, by rw [HSU.out, if_pos hzp]; go_num, below_drewN hX2.out _⟩, by simp [intOf]; omega⟩
              · have d1 : decide (0 < z) = false := decide_eq_false hzp
                go_wp2
                go_quiet (fail)
                go_wp2
                exact ⟨⟨m + 1, by omega, by go_num, by rw [HSU.out, if_neg (by omega)]; rfl, below_drewN hX2.out _⟩, by simp [intOf]; omega⟩
            · obtain rfl : m = size := by omega
              have hml1 : ¬ (m : Int) < (m : Int) := by omega
              rw [← NZ.out]
              have q4 : IntKind.i64.wrap ((k : Int) - (nz : Int)) = (k : Int) - (nz : Int) := by rw [IntKind.wrap_i64]; omega
              have WE := hid (W6.out.trans ((hV.out.trans (hX.out.mono hV.out.size)).mono W6.out.size))
              go_wp2
              exact ⟨Kept.mk ⟨i + 1, by omega, WE, rfl, arrL_mk (by kernel_rfl) (by kernel_rfl) (by kernel_rfl) (by kernel_rfl) (by kernel_rfl) (by kernel_rfl) (by kernel_rfl) (by kernel_rfl) (by kernel_rfl) (by kernel_rfl)⟩, by simp [intOf]; omega⟩
    · obtain rfl : i = sl.length := by omega
      have hil : ¬ (sl.length : Int) < (sl.length : Int) := by omega
      have R1 := hid (R0.out.below hW.out)
      obtain ⟨lk1, lk2⟩ := OK.out.like
      have hn1 := OK.out.kn
      have CL := iLikeShare_any (some ⟨bk, ok, none⟩) ck ks (some ⟨bk, ok, none⟩) ck ks (some ⟨bs, os_, none⟩) cs sl wr R1.out.K (by omega) (fh_w4 OK.out) R1.out.K (by omega) (fh_w4 OK.out) R1.out.S (by omega) (fh_w5 OK.out)
      rw [hn1, lk1] at CL
      obtain ⟨lk, hlk⟩ : ∃ z, z = (pLikeShare ks ks sl).1 := ⟨_, rfl⟩
      rw [← hlk] at CL lk2
      have HCL := hid CL
      clear CL hlk lk1
      have CA2 : Hid (∀ w, RdL (Value.int .i64) w (some ⟨bk, ok, none⟩) ks → Calls Try.prog 65 #[.slice (some ⟨bk, ok, none⟩) n ck] w fun e w' => e = .returned (.bool true) ∧ w = w') := fun w hw => by
        have := AreKeys_q (some ⟨bk, ok, none⟩) ck ks w hw (by omega)
        rw [hn1, OK.out.kq] at this
        exact this
      have CM : Hid (∀ w, Calls Try.prog 66 #[.int .u64 0] w fun e w' => e = .returned (.int .u64 0) ∧ w = w') := fun w => MixHash_any 0 w (by omega)
      clear hn1
      go_wp2_with (first
        | (go_at_call 64
           refine HCL.out.mono ?_
           rintro e w2 ⟨rfl, hb⟩
           have R2 := hid (R1.out.below hb)
           clear hb HCL R1)
        | (go_at_call 65; refine (CA2.out _ R2.out.K).mono ?_; rintro e w' ⟨rfl, rfl⟩)
        | (go_at_call 66; refine (CM.out _).mono ?_; rintro e w' ⟨rfl, rfl⟩))
      kernel_rfl
end Go.Proofs.Ytmmolicodlmlkaa.Ph
namespace Go.Proofs.Ytmmolicodlmlkaa.Ph
open Go.Conc Go.ConcN Go.RowKit
open Go.Proofs.Ytmmolicodlmlkaa.Rel
set_option linter.unusedVariables false
set_option linter.unusedSimpArgs false

def hcFs : FuncId → Bool := fun f => [14, 51, 53, 54, 55, 56, 57, 58, 59, 60, 61, 62, 63, 64, 65, 66, 75, 76, 77, 79, 83, 97, 104, 109, 110, 111, 112, 113, 121, 122, 123, 124, 132, 137, 138, 139, 166, 182].contains f
theorem hcFs_0 : fnOk Try.prog hcFs Try.f14 = true := by kernel_rfl
theorem hcFs_1 : fnOk Try.prog hcFs Try.f51 = true := by kernel_rfl
theorem hcFs_2 : fnOk Try.prog hcFs Try.f53 = true := by kernel_rfl
theorem hcFs_3 : fnOk Try.prog hcFs Try.f54 = true := by kernel_rfl
theorem hcFs_4 : fnOk Try.prog hcFs Try.f55 = true := by kernel_rfl
theorem hcFs_5 : fnOk Try.prog hcFs Try.f56 = true := by kernel_rfl
theorem hcFs_6 : fnOk Try.prog hcFs Try.f57 = true := by kernel_rfl
theorem hcFs_7 : fnOk Try.prog hcFs Try.f58 = true := by kernel_rfl
theorem hcFs_8 : fnOk Try.prog hcFs Try.f59 = true := by kernel_rfl
theorem hcFs_9 : fnOk Try.prog hcFs Try.f60 = true := by kernel_rfl
theorem hcFs_10 : fnOk Try.prog hcFs Try.f61 = true := by kernel_rfl
theorem hcFs_11 : fnOk Try.prog hcFs Try.f62 = true := by kernel_rfl
theorem hcFs_12 : fnOk Try.prog hcFs Try.f63 = true := by kernel_rfl
theorem hcFs_13 : fnOk Try.prog hcFs Try.f64 = true := by kernel_rfl
theorem hcFs_14 : fnOk Try.prog hcFs Try.f65 = true := by kernel_rfl
theorem hcFs_15 : fnOk Try.prog hcFs Try.f66 = true := by kernel_rfl
theorem hcFs_16 : fnOk Try.prog hcFs Try.f75 = true := by kernel_rfl
theorem hcFs_17 : fnOk Try.prog hcFs Try.f76 = true := by kernel_rfl
theorem hcFs_18 : fnOk Try.prog hcFs Try.f77 = true := by kernel_rfl
theorem hcFs_19 : fnOk Try.prog hcFs Try.f79 = true := by kernel_rfl
theorem hcFs_20 : fnOk Try.prog hcFs Try.f83 = true := by kernel_rfl
theorem hcFs_21 : fnOk Try.prog hcFs Try.f97 = true := by kernel_rfl
theorem hcFs_22 : fnOk Try.prog hcFs Try.f104 = true := by kernel_rfl
theorem hcFs_23 : fnOk Try.prog hcFs Try.f109 = true := by kernel_rfl
theorem hcFs_24 : fnOk Try.prog hcFs Try.f110 = true := by kernel_rfl
theorem hcFs_25 : fnOk Try.prog hcFs Try.f111 = true := by kernel_rfl
theorem hcFs_26 : fnOk Try.prog hcFs Try.f112 = true := by kernel_rfl
theorem hcFs_27 : fnOk Try.prog hcFs Try.f113 = true := by kernel_rfl
theorem hcFs_28 : fnOk Try.prog hcFs Try.f121 = true := by kernel_rfl
theorem hcFs_29 : fnOk Try.prog hcFs Try.f122 = true := by kernel_rfl
theorem hcFs_30 : fnOk Try.prog hcFs Try.f123 = true := by kernel_rfl
theorem hcFs_31 : fnOk Try.prog hcFs Try.f124 = true := by kernel_rfl
theorem hcFs_32 : fnOk Try.prog hcFs Try.f132 = true := by kernel_rfl
theorem hcFs_33 : fnOk Try.prog hcFs Try.f137 = true := by kernel_rfl
theorem hcFs_34 : fnOk Try.prog hcFs Try.f138 = true := by kernel_rfl
theorem hcFs_35 : fnOk Try.prog hcFs Try.f139 = true := by kernel_rfl
theorem hcFs_36 : fnOk Try.prog hcFs Try.f166 = true := by kernel_rfl
theorem hcFs_37 : fnOk Try.prog hcFs Try.f182 = true := by kernel_rfl
theorem hcFs_ok : ∀ f, hcFs f = true → ∃ fn, Try.prog.funcs[f]? = some fn ∧ fnOk Try.prog hcFs fn = true := by
  intro f hf
  simp [hcFs] at hf
  rcases hf with rfl | rfl | rfl | rfl | rfl | rfl | rfl | rfl | rfl | rfl | rfl | rfl | rfl | rfl | rfl | rfl | rfl | rfl | rfl | rfl | rfl | rfl | rfl | rfl | rfl | rfl | rfl | rfl | rfl | rfl | rfl | rfl | rfl | rfl | rfl | rfl | rfl | rfl
  · exact ⟨_, Try.func14, hcFs_0⟩
  · exact ⟨_, Try.func51, hcFs_1⟩
  · exact ⟨_, Try.func53, hcFs_2⟩
  · exact ⟨_, Try.func54, hcFs_3⟩
  · exact ⟨_, Try.func55, hcFs_4⟩
  · exact ⟨_, Try.func56, hcFs_5⟩
  · exact ⟨_, Try.func57, hcFs_6⟩
  · exact ⟨_, Try.func58, hcFs_7⟩
  · exact ⟨_, Try.func59, hcFs_8⟩
  · exact ⟨_, Try.func60, hcFs_9⟩
  · exact ⟨_, Try.func61, hcFs_10⟩
  · exact ⟨_, Try.func62, hcFs_11⟩
  · exact ⟨_, Try.func63, hcFs_12⟩
  · exact ⟨_, Try.func64, hcFs_13⟩
  · exact ⟨_, Try.func65, hcFs_14⟩
  · exact ⟨_, Try.func66, hcFs_15⟩
  · exact ⟨_, Try.func75, hcFs_16⟩
  · exact ⟨_, Try.func76, hcFs_17⟩
  · exact ⟨_, Try.func77, hcFs_18⟩
  · exact ⟨_, Try.func79, hcFs_19⟩
  · exact ⟨_, Try.func83, hcFs_20⟩
  · exact ⟨_, Try.func97, hcFs_21⟩
  · exact ⟨_, Try.func104, hcFs_22⟩
  · exact ⟨_, Try.func109, hcFs_23⟩
  · exact ⟨_, Try.func110, hcFs_24⟩
  · exact ⟨_, Try.func111, hcFs_25⟩
  · exact ⟨_, Try.func112, hcFs_26⟩
  · exact ⟨_, Try.func113, hcFs_27⟩
  · exact ⟨_, Try.func121, hcFs_28⟩
  · exact ⟨_, Try.func122, hcFs_29⟩
  · exact ⟨_, Try.func123, hcFs_30⟩
  · exact ⟨_, Try.func124, hcFs_31⟩
  · exact ⟨_, Try.func132, hcFs_32⟩
  · exact ⟨_, Try.func137, hcFs_33⟩
  · exact ⟨_, Try.func138, hcFs_34⟩
  · exact ⟨_, Try.func139, hcFs_35⟩
  · exact ⟨_, Try.func166, hcFs_36⟩
  · exact ⟨_, Try.func182, hcFs_37⟩
end Go.Proofs.Ytmmolicodlmlkaa.Ph
namespace Go.Proofs.Ytmmolicodlmlkaa.Ph
open Go.Conc Go.ConcN Go.RowKit Go.Conc.Lib Go.ConcR.Gen Go.ConcN.Gen
open Go.ConcR (KK wgBlock WgAt stA smA rd wr mk DC0 Payload)
open Go.Proofs.Ytmmolicodlmlkaa.Rel
set_option linter.unusedVariables false
set_option linter.unusedSimpArgs false

theorem fy7h_ok : opsOk Try.prog ⟨hcFs, fun _ => false, fun _ => false, fun _ => false⟩ fy7h [6, 7, 8, 9, 10] = true := by kernel_rfl
theorem fc8h_ok : codeOk Try.prog ⟨hcFs, fun _ => false, fun _ => false, fun _ => false⟩ fc8h = true := by kernel_rfl
set_option maxRecDepth 100000 in
theorem hput (T : Nat → Value) (v0 v1 v5 v6 v7 v8 v9 v : Value) : Act.put ⟨arrH2 T v0 v1 v5 v6 v7 v8 v9, []⟩ ((fy7h[5]?).bind (·.dst)) v = ⟨arrH1 T v0 v1 v5 v6 v7 v8 v9 v, []⟩ := by kernel_rfl
set_option maxRecDepth 100000 in
set_option maxHeartbeats 1600000 in
theorem hl_gate (A : Option Addr) (c : Nat) (A' : Option Addr) (c' n n' : Nat) (w : World) (h : 48 < n ∨ 48 < n') :
    Rets Try.prog 10 5 hbody (fun u w' => u = .bool true) (actH A n c A' n' c') w := by
  simp only [Rets, hbody, Try.f10, cut]
  have hd : decide (48 < n ∨ 48 < n') = true := decide_eq_true h
  have C0 : Hid (∀ w, Calls Try.prog 50 #[.slice A n c, .slice A' n' c'] w fun e w' => e = .returned (.bool true) ∧ w = w') := fun w => hd ▸ r8Long_any A A' n n' c c' w
  clear hd h
  go_wp2_with (go_at_call 50; refine (C0.out _).mono ?_; rintro e w' ⟨rfl, rfl⟩)
  kernel_rfl
section
variable {W₀ : World} {l : List Fc} {F S : Nat → Prop} {own : List ((Nat → Prop) × Fc)} {w w' : World} {A A' : Option Addr} {c c' : Nat} {x y : List Int}
set_option maxRecDepth 100000 in
theorem h_ends (hF : LH W₀ [] F [] S w) (hA : ArgP (fun y => y < W₀.heap.size) W₀ A) (hA' : ArgP (fun y => y < W₀.heap.size) W₀ A') (h : 48 < x.length ∨ 48 < y.length) : GL Try.prog (LawEnd W₀) S (G (Frame.enter Try.prog 10 #[.slice A x.length c, .slice A' y.length c'] .normal) []) w := by
  have x2 : ArgP S w A := fun a ha => ⟨hF.sub _ (hF.old _ (hA a ha).1).1, (hA a ha).2.stay (hF.old _ (hA a ha).1).2⟩
  have y2 : ArgP S w A' := fun a ha => ⟨hF.sub _ (hF.old _ (hA' a ha).1).1, (hA' a ha).2.stay (hF.old _ (hA' a ha).1).2⟩
  have ha : ∀ z ∈ (actH A x.length c A' y.length c').tmps, okV (fnsQ hrFs w S No) w.heap.size z = true := by
    intro z hz
    simp [arrH0] at hz
    rcases hz with rfl | rfl | rfl
    · exact okV_arg hF.lf x2
    · exact okV_arg hF.lf y2
    · exact okV_undef _ _
  rw [hl_enter]
  exact law_ret hF Try.func10 rfl (by kernel_rfl) (gl_ret (fs := hrFs) (W := No) (fun b h => h.elim) hF.low zero_ok hF.glob hrFs_ok Try.func10 hl_results hl_spine rfl ha fun τ => hl_gate A c A' c' _ _ _ h)
theorem rows_lone {w : World} {ks sl : List Int} {n br or_ : Nat} (hn : ks.length = n) (h : RdLL w (some ⟨br, or_, none⟩) (rowsOf ks sl)) (h0 : 0 < n) : ∀ i s, sl[i]? = some s → ∃ b o c, w.cell? ⟨br, or_ + i, none⟩ = some (.slice (some ⟨b, o, none⟩) n c) ∧ RdL (Value.int .i64) w (some ⟨b, o, none⟩) (rowH ks s.toNat n) := by
  intro i s hs
  obtain ⟨hl, e⟩ := List.getElem?_eq_some_iff.1 hs
  have hl2 : i < (rowsOf ks sl).length := by rw [rowsOf_length]; exact hl
  obtain ⟨C, k, R, cc, h1, h2, h3⟩ := h i hl2
  injection h1 with h1
  injection h1 with h1 h4
  subst h1; subst h4
  have hr : (rowsOf ks sl)[i] = rowH ks s.toNat n := by
    rw [rowsOf_at, List.getD_eq_getElem?_getD, hs, hn]; rfl
  rw [hr] at h2 h3
  rw [rowH_length] at h2
  obtain ⟨b, o, rfl⟩ := rd_some h3 (by rw [rowH_length]; exact h0)
  exact ⟨b, o, cc, h2, h3⟩
set_option maxRecDepth 100000 in
set_option maxHeartbeats 4000000 in
theorem h_c {T : Nat → Value} {n : Nat} {ks sl : List Int} {Ak : Option Addr} {ck : Nat} {As : Option Addr} {cs : Nat} {Ar : Option Addr} {cr : Nat} {At_ : Option Addr} {ct : Nat} {Gr Gt : Nat → Prop} (hy : RdL (Value.int .u8) W₀ A' y) (hA : ArgP (fun y => y < W₀.heap.size) W₀ A) (hA' : ArgP (fun y => y < W₀.heap.size) W₀ A') (hby : Byt y) (hn' : y.length ≤ 48) (OK : FhOk ks sl n 1)
    (hF : LH W₀ [.arg Ak ks, .arg As sl] F [(Gt, .sso At_ (rowsOf ks sl)), (Gr, .sso Ar (rowsOf ks sl))] S w) :
    GL Try.prog (LawEnd W₀) S (G ((base 10).at (Act.put ⟨arrH2 T (.slice A x.length c) (.slice A' y.length c') (.int .i64 (n : Nat)) (.slice Ak ks.length ck) (.slice As sl.length cs) (.slice Ar sl.length cr) (.bool true), []⟩ ((fy7h[5]?).bind (·.dst)) (.tuple #[.slice At_ sl.length ct, .bool true])) [.inRegion fy7h [6, 7, 8, 9, 10], .code fc8h]) []) w := by
  rw [hput]
  have x2 : ArgP S w A := fun a ha => ⟨hF.sub _ (hF.old _ (hA a ha).1).1, (hA a ha).2.stay (hF.old _ (hA a ha).1).2⟩
  obtain ⟨y1, y2⟩ := u8_old hF hy hA'
  have gK := hF.base (f := .arg Ak ks) (by simp)
  have gS := hF.base (f := .arg As sl) (by simp)
  have gR := (hF.mine (p := (Gr, .sso Ar (rowsOf ks sl))) (by simp)).1
  have gT := (hF.mine (p := (Gt, .sso At_ (rowsOf ks sl))) (by simp)).1
  have hkn := OK.kn
  have hn1 := OK.n1
  have hs1 := OK.s1
  have okT : okV (fnsQ hcFs w S No) w.heap.size (.tuple #[.slice At_ sl.length ct, .bool true]) = true := by
    have := okV_arg (fs := hcFs) (n := sl.length) (c := ct) hF.lf gT.1
    simp [okV_tuple, this]
  refine law_ret hF Try.func10 rfl (by kernel_rfl) (gl_endM (fs := hcFs) (W := No) (fun b h => h.elim) hF.low zero_ok hF.glob hcFs_ok Try.func10 hl_results fc8h_ok fy7h_ok rfl fun τ => ?_)
  rw [abs_arrH1, absV_same (.slice A x.length c) (okV_arg hF.lf x2), absV_same (.slice A' y.length c') (okV_arg hF.lf y2), absV_same (.int .i64 (n : Nat)) (by simp), absV_same (.slice Ak ks.length ck) (okV_arg hF.lf gK.2), absV_same (.slice As sl.length cs) (okV_arg hF.lf gS.2), absV_same (.slice Ar sl.length cr) (okV_arg hF.lf gR.1), absV_same (.bool true) (by simp), absV_same _ okT]
  have lK := lone_rdl (fs := hcFs) hF.lf gK.1 gK.2
  have lS := lone_rdl (fs := hcFs) hF.lf gS.1 gS.2
  have lR := lone_ss (fs := hcFs) hF.lf gR
  have lT := lone_ss (fs := hcFs) hF.lf gT
  have lY := u8_lone (fs := hcFs) hF.low y1 y2
  obtain ⟨bk, ok, rfl⟩ := rd_some lK (by omega)
  obtain ⟨bs, os_, rfl⟩ := rd_some lS (by omega)
  have hr0 : 0 < (rowsOf ks sl).length := by rw [rowsOf_length]; omega
  obtain ⟨br, or_, rfl⟩ : ∃ b o, Ar = some ⟨b, o, none⟩ := by
    obtain ⟨C, k, R, cc, h1, _⟩ := lR 0 hr0
    exact ⟨C, k, h1⟩
  obtain ⟨bt, ot, rfl⟩ : ∃ b o, At_ = some ⟨b, o, none⟩ := by
    obtain ⟨C, k, R, cc, h1, _⟩ := lT 0 hr0
    exact ⟨C, k, h1⟩
  rw [hkn]
  exact fh_tail _ _ ks sl y n bk ok ck bs os_ cs br or_ cr bt ot ct A' c' _ hby (by omega) OK ⟨lK, lS, lY, rows_lone hkn lR hn1, rows_lone hkn lT hn1⟩
end
set_option maxRecDepth 100000 in
set_option maxHeartbeats 16000000 in
/-- ████ FnHashes: ONE GOOD RUN. ████ -/
theorem hrun {W : World} {A A' : Option Addr} {c c' : Nat} {x y : List Int} (hG : Try.prog.globals.size ≤ W.heap.size) (hx : RdL (Value.int .u8) W A x) (hbx : Byt x) (hA : ArgP (fun y => y < W.heap.size) W A) (hy : RdL (Value.int .u8) W A' y) (hby : Byt y) (hA' : ArgP (fun y => y < W.heap.size) W A') :
    ∃ M last o w' t', runNT Try.prog (M + 1) (solo (G (Frame.enter Try.prog 10 #[.slice A x.length c, .slice A' y.length c'] .normal) []) W) #[] = (.ended o w', t') ∧
      runN Try.prog M (solo (G (Frame.enter Try.prog 10 #[.slice A x.length c, .slice A' y.length c'] .normal) []) W) = .next last ∧ step Try.prog last = .ended o w' ∧ Go.Conc.Good Try.prog (fun v W' => v = .bool true ∧ Below W.heap.size W W') last o w' t' := by
  have hAt0 := at_start (P := Try.prog) (g := G (Frame.enter Try.prog 10 #[.slice A x.length c, .slice A' y.length c'] .normal) []) (w := W)
  have hH0 : LH W [] (fun y => y < W.heap.size) [] (FreeB (fun _ => False) W) W :=
    ⟨⟨rfl, rfl, rfl⟩, fun y hy => ⟨hy, rfl⟩, fun y hy => hy.1, hG, fun f hf => (by cases hf), fun y hy => ⟨hy, fun l _ h => h⟩, by simp, List.Pairwise.nil⟩
  by_cases hg : 48 < x.length ∨ 48 < y.length
  · exact ends_at (K := 0) rfl hAt0 (fun y hy => hy) (h_ends hH0 hA hA' hg)
  obtain ⟨K1, m1, t1, gg, w1, S1, r1, hAt1, ⟨T, n, ks, sl, Ak, ck, As, cs, F1, rfl, OK, hH1⟩, hf1, _⟩ :=
    hAt0.walk (fun S g w d ⟨T, n, ks, sl, Ak, ck, As, cs, F', h1, h2, h3⟩ => ⟨T, n, ks, sl, Ak, ck, As, cs, F', h1, h2, h3.at⟩) (h_a (c := c) (c' := c') hH0 hx hA hbx (by omega) hy hA' hby (by omega))
  have b1 := OK.kn; have b2 := OK.n2; have b3 := OK.s2
  have facts : ∀ {S w} {own : List ((Nat → Prop) × Fc)} {F : Nat → Prop}, LH W [.arg Ak ks, .arg As sl] F own S w → RdL (Value.int .i64) w Ak ks ∧ RdL (Value.int .i64) w As sl ∧ ArgP S w Ak ∧ ArgP S w As := fun h => by
    have h1 := h.base (f := .arg Ak ks) (by simp)
    have h2 := h.base (f := .arg As sl) (by simp)
    exact ⟨h1.1, h2.1, h1.2, h2.2⟩
  obtain ⟨K2, m2, t2, w2, Shun2, Ar, cr, Gr, r2, hAt2, hH2⟩ := hash_at (A := Ak) (c := ck) (x := ks) (A2 := As) (c2 := cs) (sl := sl) hAt1 hH1 hf1 (fun h => facts h) (by omega) (by omega)
  have g1 : ∀ kw : Int, 1 ≤ kw → kw ≤ 8 → gateRS ks sl kw = true := fun kw h1 h2 => by
    unfold gateRS
    have e1 := OK.kq
    have e2 : allB sl 0 4294967295 = true := by have := OK.sq; unfold keysQ at this; rw [Bool.and_eq_true] at this; exact this.2
    rw [e1, e2, decide_eq_true (show sl.length ≤ 32 by omega)]
    show Go.Proofs.Ytmmolicodlmlkaa.inB kw 1 8 = true
    simp [Go.Proofs.Ytmmolicodlmlkaa.inB]; omega
  rw [g1 1 (by decide) (by decide)] at hAt2 hH2
  simp only [resOf, if_true, rowsOf_length] at hAt2 hH2
  obtain ⟨K3, m3, t3, gg, w3, S3, r3, hAt3, ⟨T3, kw, rfl, hkw, hH3⟩, hf3, _⟩ :=
    hAt2.walk (fun S g w d ⟨T, kw, h1, h2, h3⟩ => ⟨T, kw, h1, h2, h3.at⟩) (h_b hH2 hy hA' hby (by omega))
  obtain ⟨q1, q2, q3, q4⟩ := facts hH3
  obtain ⟨K4, m4, t4, w4, Shun4, At_, ct, Gt, r4, hAt4, hH4⟩ := rows_at hAt3 hH3 hf3 q1 q2 (by omega) (by omega) q3 q4
  rw [g1 kw hkw.1 hkw.2] at hAt4 hH4
  simp only [resOf, if_true, rowsOf_length] at hAt4 hH4
  exact ends_at (run_trans r1 (run_trans r2 (run_trans r3 r4))) hAt4 (fun y hy => hy) (h_c hy hA hA' hby (by omega) OK hH4)
end Go.Proofs.Ytmmolicodlmlkaa.Ph
