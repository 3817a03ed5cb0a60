/-
  Parts of the proof: FnCells, alone: from its start to the region in which the program's CellsShared is called. FnCells, alone: behind the call of CellsShared, to its end. New cells of the program with their block known whole; clones of numbers whose block holds numbers alone. impl.CellsShared up to its call of sharedWork, alone; where it returns ahead of it. impl.CellsShared where nothing is worked on, alone. The work of CellsShared for one list, alone, up to its last store. The work of CellsShared for one list, alone, up to its last store: the walk. No condition.
-/
import Derived.Test.YtmmolicodlmlkaaFI
import Derived.Test.YtmmolicodlmlkaaFH
import Derived.Test.YtmmolicodlmlkaaFC
set_option linter.unusedVariables false
set_option linter.unusedSimpArgs false
namespace Go.Proofs.Ytmmolicodlmlkaa.Ph
open Go.Conc Go.ConcN Go.RowKit
open Go.Proofs.Ytmmolicodlmlkaa.Rel
set_option linter.unusedVariables false
set_option linter.unusedSimpArgs false

abbrev arrF (T : Nat → Value) (v0 v1 v5 v6 v7 v8 v9 v11 v12 v13 v14 v23 v24 v25 v26 : Value) : Array Value := #[v0, v1, T 2, T 3, T 4, v5, v6, v7, v8, v9, T 10, v11, v12, v13, v14, T 15, T 16, T 17, T 18, T 19, T 20, T 21, T 22, v23, v24, v25, v26, T 27, T 28, T 29, T 30, T 31, T 32, T 33, T 34, T 35, T 36, T 37, T 38, T 39, T 40, T 41, T 42, T 43, T 44, T 45, T 46, T 47, T 48, T 49, T 50, T 51, T 52, T 53, T 54, T 55, T 56, T 57, T 58, T 59, T 60, T 61, T 62, T 63, T 64, T 65, T 66, T 67, T 68, T 69, T 70, T 71, T 72, T 73, T 74, T 75, T 76, T 77, T 78, T 79, T 80, T 81, T 82, T 83, T 84, T 85, T 86, T 87, T 88, T 89, T 90, T 91, T 92, T 93, T 94, T 95, T 96, T 97, T 98, T 99, T 100, T 101, T 102, T 103, T 104, T 105, T 106, T 107, T 108, T 109, T 110, T 111, T 112, T 113, T 114, T 115, T 116, T 117, T 118, T 119, T 120, T 121, T 122, T 123, T 124, T 125, T 126, T 127, T 128, T 129, T 130, T 131, T 132, T 133, T 134, T 135, T 136, T 137, T 138, T 139, T 140, T 141, T 142, T 143, T 144, T 145, T 146, T 147, T 148, T 149, T 150, T 151, T 152, T 153, T 154, T 155, T 156, T 157, T 158, T 159, T 160, T 161, T 162, T 163, T 164, T 165, T 166, T 167, T 168, T 169, T 170, T 171, T 172, T 173, T 174, T 175, T 176, T 177, T 178, T 179, T 180, T 181, T 182, T 183, T 184, T 185, T 186, T 187, T 188, T 189, T 190, T 191, T 192, T 193, T 194, T 195, T 196, T 197, T 198, T 199, T 200, T 201, T 202, T 203, T 204, T 205, T 206, T 207, T 208, T 209, T 210, T 211, T 212, T 213, T 214, T 215, T 216, T 217, T 218, T 219, T 220, T 221, T 222, T 223, T 224, T 225, T 226, T 227, T 228, T 229, T 230, T 231, T 232, T 233, T 234, T 235, T 236, T 237, T 238, T 239, T 240, T 241, T 242, T 243, T 244, T 245, T 246, T 247, T 248, T 249, T 250, T 251, T 252, T 253, T 254, T 255, T 256, T 257, T 258, T 259, T 260, T 261, T 262, T 263, T 264, T 265, T 266, T 267, T 268, T 269, T 270, T 271, T 272, T 273, T 274, T 275, T 276, T 277, T 278, T 279, T 280, T 281, T 282, T 283, T 284, T 285, T 286, T 287, T 288, T 289, T 290, T 291, T 292, T 293, T 294, T 295, T 296, T 297, T 298, T 299, T 300, T 301, T 302, T 303, T 304, T 305, T 306, T 307, T 308, T 309, T 310, T 311, T 312, T 313, T 314, T 315, T 316, T 317, T 318, T 319]
noncomputable def fbody : Code := match Try.f9.body with | some c => c | _ => .skip
theorem fbody_is : Try.f9.body = some fbody := rfl
noncomputable def fy15 : Array Oper := match Try.f9.body with | some (.seq _ (.seq _ (.seq _ (.seq _ (.seq _ (.seq _ (.seq _ (.seq _ (.seq _ (.seq _ (.seq _ (.seq _ (.seq _ (.seq _ (.seq _ (.seq (.region _ ops _) _)))))))))))))))) => ops | _ => #[]
noncomputable def fc16 : Code := match Try.f9.body with | some (.seq _ (.seq _ (.seq _ (.seq _ (.seq _ (.seq _ (.seq _ (.seq _ (.seq _ (.seq _ (.seq _ (.seq _ (.seq _ (.seq _ (.seq _ (.seq _ (c))))))))))))))))) => c | _ => .skip
abbrev actF (A : Option Addr) (n c : Nat) (A' : Option Addr) (n' c' : Nat) : Act := ⟨arrF (fun _ => undef) (.slice A n c) (.slice A' n' c') undef undef undef undef undef undef undef undef undef undef undef undef undef, []⟩
set_option maxRecDepth 100000 in
theorem fl_enter (A : Option Addr) (n c : Nat) (A' : Option Addr) (n' c' : Nat) : Frame.enter Try.prog 9 #[.slice A n c, .slice A' n' c'] .normal = (base 9).at (actF A n c A' n' c') [.code fbody] := by
  rw [enter_at _ Try.func9 fbody_is]
  kernel_rfl
/-- A box that holds cells. -/
abbrev BlkC (w : World) (b : Nat) (d0 d1 d2 : Int) (A : Option Addr) (n c : Nat) : Prop := Blk w b 37 [.int .i64 d0, .int .i64 d1, .int .i64 d2, .slice A n c]
abbrev st4 (w : World) (b : Nat) (u0 u1 u2 u3 : Value) : World := (((w.setCell ⟨b, 0, none⟩ u0).setCell ⟨b, 1, none⟩ u1).setCell ⟨b, 2, none⟩ u2).setCell ⟨b, 3, none⟩ u3
theorem blk_st {w : World} {b : Nat} {t : TypeId} {v0 v1 v2 v3 : Value} (h : Blk w b t [v0, v1, v2, v3]) (u0 u1 u2 u3 : Value) : Blk (st4 w b u0 u1 u2 u3) b t [u0, u1, u2, u3] := by simpa using (((h.set_ 0 u0).set_ 1 u1).set_ 2 u2).set_ 3 u3
theorem blk_far {w : World} {b g : Nat} {t : TypeId} {cs : List Value} (h : Blk w g t cs) (hne : g ≠ b) (u0 u1 u2 u3 : Value) : Blk (st4 w b u0 u1 u2 u3) g t cs := ((((h.far (p := ⟨b, 0, none⟩) hne u0).far (p := ⟨b, 1, none⟩) hne u1).far (p := ⟨b, 2, none⟩) hne u2).far (p := ⟨b, 3, none⟩) hne u3)
theorem own_st {w : World} {b B : Nat} {v0 v1 v2 v3 : Value} {A : Option Addr} {xs : List Int} (h : OwnS (Value.int .i64) w B 2 A xs) (hb : Blk w b 37 [v0, v1, v2, v3]) (u0 u1 u2 u3 : Value) : OwnS (Value.int .i64) (st4 w b u0 u1 u2 u3) B 2 A xs := by
  have b1 := hb.set_ 0 u0
  have b2 := b1.set_ 1 u1
  have b3 := b2.set_ 2 u2
  exact (((h.setOther hb (by decide) 0 u0).setOther b1 (by decide) 1 u1).setOther b2 (by decide) 2 u2).setOther b3 (by decide) 3 u3
theorem below_st {B : Nat} {a w : World} {b : Nat} (h : Below B a w) (hb : B ≤ b) (u0 u1 u2 u3 : Value) : Below B a (st4 w b u0 u1 u2 u3) := (((h.setCell (p := ⟨b, 0, none⟩) hb u0).setCell (p := ⟨b, 1, none⟩) hb u1).setCell (p := ⟨b, 2, none⟩) hb u2).setCell (p := ⟨b, 3, none⟩) hb u3
/-- What stands ahead of the program's CellsShared. -/
structure FcSt (B : Nat) (wd dp s : Nat) (ks os : List Int) (Ak : Option Addr) (ck : Nat) (Ao : Option Addr) (co ba bc bb bm : Nat) (Aa : Option Addr) (ca : Nat) (Ac : Option Addr) (cc : Nat) (Ab : Option Addr) (cb : Nat) (Am : Option Addr) (cm : Nat) (w : World) : Prop where
  ok : FcOk wd dp s ks os
  K : OwnV w B (.slice Ak ks.length ck) ks
  O : OwnV w B (.slice Ao os.length co) os
  a : BlkC w ba wd dp s Aa (wd * dp) ca
  c : BlkC w bc wd dp s Ac (wd * dp) cc
  b : BlkC w bb wd dp s Ab (wd * dp) cb
  m : BlkC w bm wd dp s Am (wd * dp) cm
  la : B ≤ ba
  lc : B ≤ bc
  lb : B ≤ bb
  lm : B ≤ bm
  xa : OwnS (Value.int .i64) w B 2 Aa (putC wd s dp ks)
  xc : OwnS (Value.int .i64) w B 2 Ac (carC wd s dp ks)
  xb : OwnS (Value.int .i64) w B 2 Ab (putC wd s dp os)
  xm : OwnS (Value.int .i64) w B 2 Am (bothC wd s dp ks os)
  ka : wd * dp ≤ ca ∧ ca ≤ 9223372036854775807
  kb : wd * dp ≤ cb ∧ cb ≤ 9223372036854775807
def FcPre (B : Nat) (v0 v1 : Value) (a' : Act) (w' : World) : Prop :=
  a'.defers = [] ∧ ∃ wd dp s ks os Ak ck Ao co ba bc bb bm Aa ca Ac cc Ab cb Am cm, a'.tmps = arrF (fun i => a'.tmps.getD i undef) v0 v1 (.slice Ak ks.length ck) (.slice Ao os.length co) (.int .i64 (wd : Nat)) (.int .i64 (dp : Nat)) (.int .i64 (s : Nat)) (.bool true) (ptrB ba) (ptrB bc) (ptrB bb) (ptrB bm) (.bool true) (.int .i64 (ks.length : Nat)) (.bool true) ∧
    FcSt B wd dp s ks os Ak ck Ao co ba bc bb bm Aa ca Ac cc Ab cb Am cm w'
theorem w64_of {z : Int} (h : -1000000000000 ≤ z ∧ z ≤ 1000000000000) : W64 z := w64_of_bounds (by omega)
theorem w64_l {x : List Int} (h : ∀ y ∈ x, 0 ≤ y ∧ y ≤ 2000) : ∀ y ∈ x, W64 y := fun y hy => w64_of (by have := h y hy; omega)
theorem w64_m {x : List Int} (h : ∀ y ∈ x, 0 ≤ y ∧ y ≤ 1000) : ∀ y ∈ x, W64 y := fun y hy => w64_of (by have := h y hy; omega)
theorem fcPut {wd dp s : Nat} {ks os : List Int} (h : FcOk wd dp s ks os) {i : Nat} {z : Int} (hz : ks[i]? = some z) (A : Option Addr) (c : Nat) (w : World) (hr : RdL (Value.int .i64) w A (putKs wd s dp (zerosC wd dp) (ks.take i))) :
    Calls Try.prog 38 #[.agg #[.int .i64 (wd : Nat), .int .i64 (dp : Nat), .int .i64 (s : Nat), .slice A (wd * dp) c], .int .i64 z, .int .i64 1] w fun e w' => ∃ A' c', e = .returned (.tuple #[.agg #[.int .i64 (wd : Nat), .int .i64 (dp : Nat), .int .i64 (s : Nat), .slice A' (wd * dp) c'], .bool true]) ∧
      OwnS (Value.int .i64) w' w.heap.size 2 A' (putKs wd s dp (zerosC wd dp) (ks.take (i + 1))) ∧ Below w.heap.size w w' ∧ wd * dp ≤ c' ∧ c' ≤ 9223372036854775807 := by
  obtain ⟨hi, rfl⟩ := List.getElem?_eq_some_iff.1 hz
  have hk := h.kb ks[i] (List.getElem_mem _)
  have := h.w1; have := h.w2; have := h.d1; have := h.d2; have := h.s2
  have hc := iPutCells_cap (wd : Int) (dp : Int) (s : Int) A c (putKs wd s dp (zerosC wd dp) (ks.take i)) ks[i] 1 w (w64_of (by omega)) (w64_of (by omega)) (w64_of (by omega)) hr (by rw [putZ_length]; have := h.sz; omega) (w64_m (h.putB i (by omega))) (w64_of (by omega)) (w64_of (by decide))
  rw [putZ_length, h.put i hi] at hc
  refine hc.mono fun e w' he => ?_
  obtain ⟨A', c', e1, e2, _, e4, e5, e6⟩ := he
  simp only [putZ_length] at e1 e5
  exact ⟨A', c', e1, e2, e4, e5, e6⟩
theorem fcCar {wd dp s : Nat} {ks os : List Int} (h : FcOk wd dp s ks os) {i : Nat} {z : Int} (hz : ks[i]? = some z) (A : Option Addr) (c : Nat) (w : World) (hr : RdL (Value.int .i64) w A (putCar wd s dp (zerosC wd dp) (ks.take i))) :
    Calls Try.prog 39 #[.agg #[.int .i64 (wd : Nat), .int .i64 (dp : Nat), .int .i64 (s : Nat), .slice A (wd * dp) c], .int .i64 z, .int .i64 1] w fun e w' => ∃ A' c', e = .returned (.tuple #[.agg #[.int .i64 (wd : Nat), .int .i64 (dp : Nat), .int .i64 (s : Nat), .slice A' (wd * dp) c'], .bool true]) ∧
      OwnS (Value.int .i64) w' w.heap.size 2 A' (putCar wd s dp (zerosC wd dp) (ks.take (i + 1))) ∧ Below w.heap.size w w' := by
  obtain ⟨hi, rfl⟩ := List.getElem?_eq_some_iff.1 hz
  have hk := h.kb ks[i] (List.getElem_mem _)
  have := h.w1; have := h.w2; have := h.d1; have := h.d2; have := h.s2
  have hc := iPutCareful_any (wd : Int) (dp : Int) (s : Int) A c (putCar wd s dp (zerosC wd dp) (ks.take i)) ks[i] 1 w (w64_of (by omega)) (w64_of (by omega)) (w64_of (by omega)) hr (by rw [carZ_length]; have := h.sz; omega) (w64_m (h.carB i (by omega))) (w64_of (by omega)) (w64_of (by decide))
  rw [carZ_length, h.car i hi] at hc
  refine hc.mono fun e w' he => ?_
  obtain ⟨A', c', e1, e2, _, e4⟩ := he
  simp only [carZ_length] at e1
  exact ⟨A', c', e1, e2, e4⟩
theorem fcMerge {wd dp s : Nat} {ks os : List Int} (h : FcOk wd dp s ks os) (A : Option Addr) (c : Nat) (A' : Option Addr) (c' : Nat) (w : World) (hr : RdL (Value.int .i64) w A (putC wd s dp ks)) (hr' : RdL (Value.int .i64) w A' (putC wd s dp os)) :
    Calls Try.prog 40 #[.agg #[.int .i64 (wd : Nat), .int .i64 (dp : Nat), .int .i64 (s : Nat), .slice A (wd * dp) c], .agg #[.int .i64 (wd : Nat), .int .i64 (dp : Nat), .int .i64 (s : Nat), .slice A' (wd * dp) c']] w fun e w' => ∃ A' c', e = .returned (.tuple #[.agg #[.int .i64 (wd : Nat), .int .i64 (dp : Nat), .int .i64 (s : Nat), .slice A' (wd * dp) c'], .bool true]) ∧
      OwnS (Value.int .i64) w' w.heap.size 2 A' (bothC wd s dp ks os) ∧ Below w.heap.size w w' := by
  have := h.w1; have := h.w2; have := h.d1; have := h.d2; have := h.s2
  have hsz := h.sz
  have hc := iMergeCells_any (wd : Int) (dp : Int) (s : Int) A c (putC wd s dp ks) (wd : Int) (dp : Int) (s : Int) A' c' (putC wd s dp os) w (w64_of (by omega)) (w64_of (by omega)) (w64_of (by omega)) hr (by rw [putZ_length]; omega) (w64_m h.putA) (w64_of (by omega)) (w64_of (by omega)) (w64_of (by omega)) hr' (by rw [putZ_length]; omega) (w64_m h.sym.putA)
  rw [putZ_length, putZ_length, h.merge] at hc
  refine hc.mono fun e w' he => ?_
  obtain ⟨A', c', e1, e2, _, e4⟩ := he
  simp only [bothC_length] at e1
  exact ⟨A', c', e1, e2, e4⟩
theorem fcTotal {wd dp s : Nat} {ks os : List Int} (h : FcOk wd dp s ks os) (A : Option Addr) (c : Nat) (w : World) (hr : RdL (Value.int .i64) w A (putC wd s dp ks)) (hc : wd * dp ≤ c ∧ c ≤ 9223372036854775807) :
    Calls Try.prog 41 #[.agg #[.int .i64 (wd : Nat), .int .i64 (dp : Nat), .int .i64 (s : Nat), .slice A (wd * dp) c]] w fun e w' => e = .returned (.tuple #[.int .i64 (ks.length : Nat), .bool true]) ∧ Below w.heap.size w w' := by
  have := h.w1; have := h.w2; have := h.d1; have := h.d2; have := h.s2
  have hsz := h.sz
  have hc := iCellsTotal_big (wd : Int) (dp : Int) (s : Int) A c (putC wd s dp ks) w (w64_of (by omega)) (w64_of (by omega)) (w64_of (by omega)) hr (by rw [putZ_length]; omega) (w64_m h.putA) (by rw [putZ_length]; exact hc)
  rw [putZ_length, h.total] at hc
  exact hc
set_option maxRecDepth 100000 in
set_option maxHeartbeats 16000000 in
theorem fc_reach (A : Option Addr) (c : Nat) (x : List Int) (A' : Option Addr) (c' : Nat) (y : List Int) (w : World) (hx : RdL (Value.int .u8) w A x) (hbx : Byt x) (hy : RdL (Value.int .u8) w A' y) (hby : Byt y) (hn : x.length ≤ 1048576) (hn' : y.length ≤ 1048576) :
    Rel.Reach Try.prog 15 fbody (FcPre w.heap.size (.slice A x.length c) (.slice A' y.length c')) (actF A x.length c A' y.length c') w := by
  have HX := hid hx
  have HY := hid hy
  have BX := hid hbx
  have BY := hid hby
  have hd : decide (1048576 < x.length ∨ 1048576 < y.length) = false := decide_eq_false (by omega)
  have C0 : Hid (∀ w, Calls Try.prog 34 #[.slice A x.length c, .slice A' y.length c'] w fun e w' => e = .returned (.bool false) ∧ w = w') := fun w => hd ▸ b10Long_any A A' x.length y.length c c' w
  have CA : Hid (∀ (i n : Int) w', RdL (Value.int .u8) w' A' y → 0 ≤ i → i ≤ 1000 → 1 < n → n ≤ 256 → Calls Try.prog 36 #[.slice A' y.length c', .int .i64 i, .int .i64 n] w' fun e w'' => (∃ r, e = .returned (.int .i64 r) ∧ 0 ≤ r ∧ r < n) ∧ w' = w'') := fun i n w' h1 h2 h3 h4 h5 => b10At_any A' c' y i n w' h1 BY.out hn' h2 h3 h4 h5
  clear hx hy hbx hby hd
  simp only [fbody, Try.f9]
  refine reach_seq ?_
  go_wp2
  refine reach_seq ?_
  go_wp2_with (go_at_call 34; refine (C0.out _).mono ?_; rintro e w' ⟨rfl, rfl⟩)
  clear C0
  refine reach_seq ?_
  go_wp2_with fail
  refine (CA.out 0 20 w HY.out (by decide) (by decide) (by decide) (by decide)).mono ?_
  rintro e w' ⟨⟨r0, rfl, h00, h01⟩, rfl⟩
  go_wp2_with fail
  refine (b10Keys_any A c x r0 w HX.out BX.out hn h00 (by omega)).mono ?_
  rintro e w1 ⟨v, ks, rfl, hOK, hKl, hKb, hb⟩
  obtain ⟨Ak, ck, rfl, -⟩ := hOK.ownS
  have K1 := hid hOK
  have S1 := hid hb
  have KB := hid hKb
  have hkl : ks.length ≤ 19 := by omega
  have Y1 := hid (HY.out.below hb)
  clear hb hKb hOK hKl h00 h01 HX
  go_wp2
  refine reach_seq ?_
  go_wp2_with fail
  refine (CA.out 1 12 w1 Y1.out (by decide) (by decide) (by decide) (by decide)).mono ?_
  rintro e w' ⟨⟨r1, rfl, h00, h01⟩, rfl⟩
  go_wp2_with fail
  refine (b10Keys_any A' c' y r1 w1 Y1.out BY.out hn' h00 (by omega)).mono ?_
  rintro e w2 ⟨v, os, rfl, hOK, hKl, hKb, hb⟩
  obtain ⟨Ao, co, rfl, -⟩ := hOK.ownS
  have O2 := hid (hOK.mono S1.out.size)
  have K2 := hid (K1.out.below hb)
  have S2 := hid (S1.out.trans (hb.mono S1.out.size))
  have OB := hid hKb
  have hol : os.length ≤ 19 := by omega
  have Y2 := hid (Y1.out.below hb)
  clear hb hKb hOK hKl h00 h01 K1 S1 Y1
  go_wp2
  refine reach_seq ?_
  go_wp2_with fail
  refine (CA.out 2 12 w2 Y2.out (by decide) (by decide) (by decide) (by decide)).mono ?_
  rintro e w' ⟨⟨r2, rfl, h20, h21⟩, rfl⟩
  obtain ⟨wd, hwd⟩ : ∃ wd : Nat, (2 : Int) + r2 = wd := ⟨(2 + r2).toNat, by omega⟩
  have q2 : IntKind.i64.wrap (2 + r2) = (wd : Int) := by rw [IntKind.wrap_i64]; omega
  have w1b : 2 ≤ wd ∧ wd ≤ 13 := by omega
  clear hwd h20 h21
  go_wp2
  clear q2
  refine reach_seq ?_
  go_wp2_with fail
  refine (CA.out 3 4 w2 Y2.out (by decide) (by decide) (by decide) (by decide)).mono ?_
  rintro e w' ⟨⟨r3, rfl, h30, h31⟩, rfl⟩
  obtain ⟨dp, hdp⟩ : ∃ dp : Nat, (1 : Int) + r3 = dp := ⟨(1 + r3).toNat, by omega⟩
  have q3 : IntKind.i64.wrap (1 + r3) = (dp : Int) := by rw [IntKind.wrap_i64]; omega
  have d1b : 1 ≤ dp ∧ dp ≤ 4 := by omega
  clear hdp h30 h31
  go_wp2
  clear q3
  refine reach_seq ?_
  go_wp2_with fail
  refine (CA.out 4 256 w2 Y2.out (by decide) (by decide) (by decide) (by decide)).mono ?_
  rintro e w' ⟨⟨r4, rfl, h40, h41⟩, rfl⟩
  obtain ⟨s, hs⟩ : ∃ s : Nat, (100 : Int) * r4 = s := ⟨(100 * r4).toNat, by omega⟩
  have q4 : IntKind.i64.wrap (100 * r4) = (s : Int) := by rw [IntKind.wrap_i64]; omega
  have sb : s ≤ 25500 := by omega
  clear hs h40 h41
  go_wp2
  clear q4 CA
  have OK : Hid (FcOk wd dp s ks os) := ⟨w1b.1, w1b.2, d1b.1, d1b.2, sb, hkl, by omega, KB.out, fun k hk => OB.out k hk⟩
  have CN := hid (iNewCells_cap (wd : Int) (dp : Int) (s : Int) w2 (w64_of (by omega)) (w64_of (by omega)) (w64_of (by omega)))
  rw [OK.out.new] at CN
  refine reach_seq ?_
  go_wp2_with fail
  refine CN.out.mono ?_
  rintro e w3 ⟨Ae, ce, rfl, hoe, _, hbe, hce1, hce2⟩
  simp only [List.length_replicate] at hce1 ⊢
  have K3 := hid (K2.out.below hbe)
  have O3 := hid (O2.out.below hbe)
  have S3 := hid (S2.out.trans (hbe.mono S2.out.size))
  have E3 := hid (hoe.mono S2.out.size)
  have hce : wd * dp ≤ ce ∧ ce ≤ 9223372036854775807 := by omega
  clear hbe hoe hce1 hce2 CN K2 O2 S2 Y2 HY
  have E4 := hid (Blk.new w3 37 [.int .i64 (wd : Nat), .int .i64 (dp : Nat), .int .i64 (s : Nat), .slice Ae (wd * dp) ce])
  have S4 := hid (below_a1 w3 (Obj.cells #[.int .i64 (wd : Nat), .int .i64 (dp : Nat), .int .i64 (s : Nat), .slice Ae (wd * dp) ce] 37))
  go_wp2
  generalize w3.alloc (Obj.cells #[.int .i64 (wd : Nat), .int .i64 (dp : Nat), .int .i64 (s : Nat), .slice Ae (wd * dp) ce] 37) = w4 at E4 S4 ⊢
  obtain ⟨e0, e1, e2, e3⟩ := E4.out.cells4
  refine reach_seq ?_
  go_wp2
  have E5 := hid (Blk.new w4 37 [.int .i64 (wd : Nat), .int .i64 (dp : Nat), .int .i64 (s : Nat), .slice Ae (wd * dp) ce])
  have S5 := hid (below_a1 w4 (Obj.cells #[.int .i64 (wd : Nat), .int .i64 (dp : Nat), .int .i64 (s : Nat), .slice Ae (wd * dp) ce] 37))
  generalize w4.alloc (Obj.cells #[.int .i64 (wd : Nat), .int .i64 (dp : Nat), .int .i64 (s : Nat), .slice Ae (wd * dp) ce] 37) = w5 at E5 S5 ⊢
  clear e0 e1 e2 e3
  obtain ⟨e0, e1, e2, e3⟩ := (E4.out.below S5.out).cells4
  refine reach_seq ?_
  go_wp2
  have E6 := hid (Blk.new w5 37 [.int .i64 (wd : Nat), .int .i64 (dp : Nat), .int .i64 (s : Nat), .slice Ae (wd * dp) ce])
  have S6 := hid (below_a1 w5 (Obj.cells #[.int .i64 (wd : Nat), .int .i64 (dp : Nat), .int .i64 (s : Nat), .slice Ae (wd * dp) ce] 37))
  generalize w5.alloc (Obj.cells #[.int .i64 (wd : Nat), .int .i64 (dp : Nat), .int .i64 (s : Nat), .slice Ae (wd * dp) ce] 37) = w6 at E6 S6 ⊢
  clear e0 e1 e2 e3
  obtain ⟨e0, e1, e2, e3⟩ := ((E4.out.below S5.out).below S6.out).cells4
  refine reach_seq ?_
  go_wp2
  have E7 := hid (Blk.new w6 37 [.int .i64 (wd : Nat), .int .i64 (dp : Nat), .int .i64 (s : Nat), .slice Ae (wd * dp) ce])
  have S7 := hid (below_a1 w6 (Obj.cells #[.int .i64 (wd : Nat), .int .i64 (dp : Nat), .int .i64 (s : Nat), .slice Ae (wd * dp) ce] 37))
  generalize w6.alloc (Obj.cells #[.int .i64 (wd : Nat), .int .i64 (dp : Nat), .int .i64 (s : Nat), .slice Ae (wd * dp) ce] 37) = w7 at E7 S7 ⊢
  clear e0 e1 e2 e3
  have z4 := E4.out.lt
  have z5 := E5.out.lt
  have z6 := E6.out.lt
  have z7 := E7.out.lt
  have SA := hid (((S4.out.trans (S5.out.mono (by omega))).trans (S6.out.mono (by omega))).trans (S7.out.mono (by omega)))
  have FA := hid ((E5.out.below S6.out).below S7.out)
  have FC := hid (E6.out.below S7.out)
  have FB := E7
  clear E4 E5 E6 E7 S4 S5 S6 S7
  have RK : Hid (RdL (Value.int .i64) w3 Ak ks) := by
    obtain ⟨A0, c0, e, ho⟩ := K3.out.ownS
    injection e with e1 _ _
    rw [e1]
    exact ho.rd
  have RO : Hid (RdL (Value.int .i64) w3 Ao os) := by
    obtain ⟨A0, c0, e, ho⟩ := O3.out.ownS
    injection e with e1 _ _
    rw [e1]
    exact ho.rd
  refine reach_seq ?_
  go_wp2
  go_loopw [75] (fun t wr => ∃ (i : Nat) (Aa : Option Addr) (ca : Nat) (Ac : Option Addr) (cc : Nat), i ≤ ks.length ∧ t = .int .i64 i ∧ Hid (BlkC wr w4.heap.size wd dp s Aa (wd * dp) ca) ∧ Hid (BlkC wr w5.heap.size wd dp s Ac (wd * dp) cc) ∧ Hid (BlkC wr w6.heap.size wd dp s Ae (wd * dp) ce) ∧
      Hid (OwnS (Value.int .i64) wr w.heap.size 2 Aa (putKs wd s dp (zerosC wd dp) (ks.take i))) ∧ Hid (OwnS (Value.int .i64) wr w.heap.size 2 Ac (putCar wd s dp (zerosC wd dp) (ks.take i))) ∧ Hid (wd * dp ≤ ca ∧ ca ≤ 9223372036854775807) ∧ Hid (Below w3.heap.size w3 wr)) (fun t _ => ks.length - (intOf t).toNat)
  case atStart => exact ⟨0, Ae, ce, Ae, ce, Nat.zero_le _, rfl, FA, FC, FB, E3.out.below SA.out, E3.out.below SA.out, hce, SA⟩
  case round =>
    obtain ⟨i, Aa, ca, Ac, cc, hi, rfl, hA, hC, hB, hxa, hxc, hca, hW⟩ := hrel
    by_cases hlt : i < ks.length
    · have hil : (i : Int) < (ks.length : Int) := by omega
      have hi0 : (0 : Int) ≤ (i : Int) := by omega
      obtain ⟨b0, o0, z, rfl, hcz, hz⟩ := (RK.out.below hW.out).at_ hlt
      obtain ⟨x1, hx1⟩ : ∃ l, l = putKs wd s dp (zerosC wd dp) (ks.take (i + 1)) := ⟨_, rfl⟩
      obtain ⟨y1, hy1⟩ : ∃ l, l = putCar wd s dp (zerosC wd dp) (ks.take (i + 1)) := ⟨_, rfl⟩
      have CP := hid (fun w' (h : RdL (Value.int .i64) w' Aa (putKs wd s dp (zerosC wd dp) (ks.take i))) => fcPut OK.out hz.out Aa ca w' h)
      have CC := hid (fun w' (h : RdL (Value.int .i64) w' Ac (putCar wd s dp (zerosC wd dp) (ks.take i))) => fcCar OK.out hz.out Ac cc w' h)
      rw [← hx1] at CP
      rw [← hy1] at CC
      have HX1 := hid hx1
      have HY1 := hid hy1
      have hxr := hid hxa.out.rd
      have hyr := hid hxc.out.rd
      generalize putKs wd s dp (zerosC wd dp) (ks.take i) = x0 at CP hxr
      generalize putCar wd s dp (zerosC wd dp) (ks.take i) = y0 at CC hyr
      clear hx1 hy1 hxa hxc
      have hck := hcz
      have hbk : b0 < wr.heap.size := World.block_lt_of_cell? wr _ hck
      have l4 : w4.heap.size < wr.heap.size := hA.out.lt
      have l5 : w5.heap.size < wr.heap.size := hC.out.lt
      have l6 : w6.heap.size < wr.heap.size := hB.out.lt
      obtain ⟨a0, a1, a2, a3⟩ := hA.out.cells4
      go_wp2_with fail
      go_cut [16, 17] from 78 to 86 (fun vq vb wx => ∃ (q : Nat) (A1 : Option Addr) (c1 : Nat), vq = .pointer (some ⟨q, 0, none⟩) ∧ vb = .bool true ∧ Hid (BlkC wx q wd dp s A1 (wd * dp) c1) ∧ Hid (OwnS (Value.int .i64) wx wr.heap.size 2 A1 x1) ∧ Hid (wr.heap.size ≤ q) ∧ Hid (Below wr.heap.size wr wx) ∧ Hid (wd * dp ≤ c1 ∧ c1 ≤ 9223372036854775807))
      case first =>
        have H0 := hid (Below.refl wr.heap.size wr)
        go_region_held3 (fun w' => w'.cell? ⟨w4.heap.size, 0, none⟩ = some (.int .i64 wd) ∧ w'.cell? ⟨w4.heap.size, 1, none⟩ = some (.int .i64 dp) ∧ w'.cell? ⟨w4.heap.size, 2, none⟩ = some (.int .i64 s) ∧ w'.cell? ⟨w4.heap.size, 3, none⟩ = some (.slice Aa (wd * dp) ca) ∧ w'.cell? ⟨b0, o0 + i, none⟩ = some (.int .i64 z)) (first | go_keep | exact hS)
          (first
            | (go_at_call 38
               refine (CP.out _ (RdL.below hxr.out (by repeat first | with_reducible exact Below.refl _ _ | (refine Hid.out ?_; assumption) | refine below_drewN ?_ _ | refine below_drew1 ?_ | refine below_alloc_ ?_ _))).mono ?_
               rintro e W20 ⟨A1, c1, rfl, ho, hb, hcap⟩
               have H22 : Hid (Below wr.heap.size wr W20) := below_next (by repeat first | with_reducible exact Below.refl _ _ | (refine Hid.out ?_; assumption) | refine below_drewN ?_ _ | refine below_drew1 ?_ | refine below_alloc_ ?_ _) hb
               have hoo := hid (OwnS.mono ho (B' := wr.heap.size) (by first | exact Nat.le_refl _ | exact Nat.le_succ _ | (simp; done)))
               first
                 | (have hQ := hid (Blk.below (Blk.new wr 37 [.int .i64 0, .int .i64 0, .int .i64 0, .slice none 0 0]) (below_drew'' hb)))
                 | (have hQ := hid (Blk.below (Blk.new wr 37 [.int .i64 0, .int .i64 0, .int .i64 0, .slice none 0 0]) (below_drew' hb)))
                 | (have hQ := hid (Blk.below (Blk.new wr 37 [.int .i64 0, .int .i64 0, .int .i64 0, .slice none 0 0]) hb))
                 | skip
               first
                 | (obtain ⟨q0, q1, q2, q3⟩ := hQ.out.cells4
                    have qf0 := hQ.out.frozen 0
                    have qf1 := hQ.out.frozen 1
                    have qf2 := hQ.out.frozen 2
                    have qf3 := hQ.out.frozen 3
                    have hqm0 : w4.heap.size ≠ wr.heap.size := by omega
                    have hqn0 := Ne.symm hqm0
                    have hqm1 : b0 ≠ wr.heap.size := by omega
                    have hqn1 := Ne.symm hqm1)
                 | skip
               have hS := And.intro (Blk.below hA.out H22.out).cells4 ((H22.out.cell (p := ⟨b0, o0 + i, none⟩) hbk).trans hck)
               simp only [and_assoc] at hS
               clear hb ho))
        all_goals
          first
          | (have hql := hQ.out.lt
             go_wp2_with fail
             go_meet
             exact ⟨_, _, _, rfl, rfl, hid (blk_st hQ.out _ _ _ _), hid (own_st hoo.out hQ.out _ _ _ _), hid (Nat.le_refl _), hid (below_st H22.out (Nat.le_refl _) _ _ _ _), hid hcap⟩)
          | (go_wp2_with fail
             go_meet
             exact ⟨_, _, _, rfl, rfl, hid (Blk.new _ _ _), hid (OwnS.below hoo.out (below_a1 _ _)), hid H22.out.size, hid (below_alloc_ H22.out _), hid hcap⟩)
      case' rest =>
      obtain ⟨g1, Ax, cx, rfl, rfl, hB1, hO1, hg1, hW1, hc1⟩ := hcut
      obtain ⟨WA, hWA⟩ : ∃ WA, WA = wc := ⟨_, rfl⟩
      subst hWA
      have hA2 := hid (hA.out.below hW1.out)
      have hC2 := hid (hC.out.below hW1.out)
      have hB2 := hid (hB.out.below hW1.out)
      have hyr2 := hid (hyr.out.below hW1.out)
      have hWW := hid (hW.out.trans (hW1.out.mono hW.out.size))
      have hck := (hW1.out.cell (p := ⟨b0, o0 + i, none⟩) hbk).trans hck
      have hbk : b0 < WA.heap.size := World.block_lt_of_cell? WA _ hck
      have hg1' := hg1.out
      have m4 : w4.heap.size < WA.heap.size := hA2.out.lt
      have m5 : w5.heap.size < WA.heap.size := hC2.out.lt
      have m6 : w6.heap.size < WA.heap.size := hB2.out.lt
      have m1 : g1 < WA.heap.size := hB1.out.lt
      obtain ⟨c0, c1, c2, c3⟩ := hC2.out.cells4
      clear a0 a1 a2 a3 CP hA hC hB hyr hcz hxr
      go_upto_region 16 with (fail)
      go_cut [18, 19] from 87 to 95 (fun vq vb wx => ∃ (q : Nat) (A1 : Option Addr) (c1 : Nat), vq = .pointer (some ⟨q, 0, none⟩) ∧ vb = .bool true ∧ Hid (BlkC wx q wd dp s A1 (wd * dp) c1) ∧ Hid (OwnS (Value.int .i64) wx WA.heap.size 2 A1 y1) ∧ Hid (WA.heap.size ≤ q) ∧ Hid (Below WA.heap.size WA wx))
      case first =>
        have H0 := hid (Below.refl WA.heap.size WA)
        go_region_held3 (fun w' => w'.cell? ⟨w5.heap.size, 0, none⟩ = some (.int .i64 wd) ∧ w'.cell? ⟨w5.heap.size, 1, none⟩ = some (.int .i64 dp) ∧ w'.cell? ⟨w5.heap.size, 2, none⟩ = some (.int .i64 s) ∧ w'.cell? ⟨w5.heap.size, 3, none⟩ = some (.slice Ac (wd * dp) cc) ∧ w'.cell? ⟨b0, o0 + i, none⟩ = some (.int .i64 z)) (first | go_keep | exact hS)
          (first
            | (go_at_call 39
               refine (CC.out _ (RdL.below hyr2.out (by repeat first | with_reducible exact Below.refl _ _ | (refine Hid.out ?_; assumption) | refine below_drewN ?_ _ | refine below_drew1 ?_ | refine below_alloc_ ?_ _))).mono ?_
               rintro e W20 ⟨A1, c1, rfl, ho, hb⟩
               have H22 : Hid (Below WA.heap.size WA W20) := below_next (by repeat first | with_reducible exact Below.refl _ _ | (refine Hid.out ?_; assumption) | refine below_drewN ?_ _ | refine below_drew1 ?_ | refine below_alloc_ ?_ _) hb
               have hoo := hid (OwnS.mono ho (B' := WA.heap.size) (by first | exact Nat.le_refl _ | exact Nat.le_succ _ | (simp; done)))
               first
                 | (have hQ := hid (Blk.below (Blk.new WA 37 [.int .i64 0, .int .i64 0, .int .i64 0, .slice none 0 0]) (below_drew'' hb)))
                 | (have hQ := hid (Blk.below (Blk.new WA 37 [.int .i64 0, .int .i64 0, .int .i64 0, .slice none 0 0]) (below_drew' hb)))
                 | (have hQ := hid (Blk.below (Blk.new WA 37 [.int .i64 0, .int .i64 0, .int .i64 0, .slice none 0 0]) hb))
                 | skip
               first
                 | (obtain ⟨q0, q1, q2, q3⟩ := hQ.out.cells4
                    have qf0 := hQ.out.frozen 0
                    have qf1 := hQ.out.frozen 1
                    have qf2 := hQ.out.frozen 2
                    have qf3 := hQ.out.frozen 3
                    have hqm0 : w5.heap.size ≠ WA.heap.size := by omega
                    have hqn0 := Ne.symm hqm0
                    have hqm1 : b0 ≠ WA.heap.size := by omega
                    have hqn1 := Ne.symm hqm1)
                 | skip
               have hS := And.intro (Blk.below hC2.out H22.out).cells4 ((H22.out.cell (p := ⟨b0, o0 + i, none⟩) hbk).trans hck)
               simp only [and_assoc] at hS
               clear hb ho))
        all_goals
          first
          | (have hql := hQ.out.lt
             go_wp2_with fail
             go_meet
             exact ⟨_, _, _, rfl, rfl, hid (blk_st hQ.out _ _ _ _), hid (own_st hoo.out hQ.out _ _ _ _), hid (Nat.le_refl _), hid (below_st H22.out (Nat.le_refl _) _ _ _ _)⟩)
          | (go_wp2_with fail
             go_meet
             exact ⟨_, _, _, rfl, rfl, hid (Blk.new _ _ _), hid (OwnS.below hoo.out (below_a1 _ _)), hid H22.out.size, hid (below_alloc_ H22.out _)⟩)
      case' rest =>
      obtain ⟨g2, Ay, cy, rfl, rfl, hB3, hO3, hg2, hW3⟩ := hcut
      obtain ⟨WB, hWB⟩ : ∃ WB, WB = wc := ⟨_, rfl⟩
      subst hWB
      have hg2' := hg2.out
      have hX := hid (hB1.out.below hW3.out)
      have hA3 := hid (hA2.out.below hW3.out)
      have hC3 := hid (hC2.out.below hW3.out)
      have hB4 := hid (hB2.out.below hW3.out)
      have n1 : g1 ≠ w4.heap.size := by omega
      have n2 : g1 ≠ w5.heap.size := by omega
      have n3 : g2 ≠ w4.heap.size := by omega
      have n4 : g2 ≠ w5.heap.size := by omega
      have n5 : w4.heap.size ≠ w5.heap.size := by omega
      have n6 : w6.heap.size ≠ w4.heap.size := by omega
      have n7 : w6.heap.size ≠ w5.heap.size := by omega
      have p1 := Ne.symm n1
      have p2 := Ne.symm n2
      have p3 := Ne.symm n3
      have p4 := Ne.symm n4
      have p5 := Ne.symm n5
      clear c0 c1 c2 c3 hck CC
      obtain ⟨e0, e1, e2, e3⟩ := hX.out.cells4
      obtain ⟨f0, f1, f2, f3⟩ := hB3.out.cells4
      obtain ⟨a0, a1, a2, a3⟩ := hA3.out.cells4
      obtain ⟨c0, c1, c2, c3⟩ := hC3.out.cells4
      have af0 := hA3.out.frozen 0
      have af1 := hA3.out.frozen 1
      have af2 := hA3.out.frozen 2
      have af3 := hA3.out.frozen 3
      have cf0 := hC3.out.frozen 0
      have cf1 := hC3.out.frozen 1
      have cf2 := hC3.out.frozen 2
      have cf3 := hC3.out.frozen 3
      go_wp2
      clear a0 a1 a2 a3 c0 c1 c2 c3 e0 e1 e2 e3 f0 f1 f2 f3 af0 af1 af2 af3 cf0 cf1 cf2 cf3
      have hBw : w.heap.size ≤ wr.heap.size := Nat.le_trans S3.out.size hW.out.size
      have hBA : w.heap.size ≤ WA.heap.size := by have := hW1.out.size; omega
      have o1 : OwnS (Value.int .i64) WB w.heap.size 2 Ax (putKs wd s dp (zerosC wd dp) (ks.take (i + 1))) := by rw [← HX1.out]; exact (hO1.out.below hW3.out).mono hBw
      have o2 : OwnS (Value.int .i64) WB w.heap.size 2 Ay (putCar wd s dp (zerosC wd dp) (ks.take (i + 1))) := by rw [← HY1.out]; exact hO3.out.mono hBA
      have bl : Below w3.heap.size w3 WB := hWW.out.trans (hW3.out.mono hWW.out.size)
      exact ⟨⟨i + 1, Ax, cx, Ay, cy, by omega, by go_num, hid (blk_far (blk_st hA3.out _ _ _ _) n5 _ _ _ _), hid (blk_st (blk_far hC3.out p5 _ _ _ _) _ _ _ _), hid (blk_far (blk_far hB4.out n6 _ _ _ _) n7 _ _ _ _),
        hid (own_st (own_st o1 hA3.out _ _ _ _) (blk_far hC3.out p5 _ _ _ _) _ _ _ _), hid (own_st (own_st o2 hA3.out _ _ _ _) (blk_far hC3.out p5 _ _ _ _) _ _ _ _), hc1, hid (below_st (below_st bl (by omega) _ _ _ _) (by omega) _ _ _ _)⟩, by simp [intOf]; omega⟩
    · have hil : ¬ (i : Int) < (ks.length : Int) := by omega
      obtain rfl : i = ks.length := by omega
      have hxa2 : Hid (OwnS (Value.int .i64) wr w.heap.size 2 Aa (putC wd s dp ks)) := by have := hxa.out; rw [List.take_length] at this; exact this
      have hxc2 : Hid (OwnS (Value.int .i64) wr w.heap.size 2 Ac (carC wd s dp ks)) := by have := hxc.out; rw [List.take_length] at this; exact this
      clear hxa hxc
      clear hi hlt hil
      go_wp2
      refine reach_seq ?_
      go_wp2
      go_loopw [107] (fun t wr => ∃ (i : Nat) (Ab : Option Addr) (cb : Nat), i ≤ os.length ∧ t = .int .i64 i ∧ Hid (BlkC wr w4.heap.size wd dp s Aa (wd * dp) ca) ∧ Hid (BlkC wr w5.heap.size wd dp s Ac (wd * dp) cc) ∧ Hid (BlkC wr w6.heap.size wd dp s Ab (wd * dp) cb) ∧
        Hid (OwnS (Value.int .i64) wr w.heap.size 2 Aa (putC wd s dp ks)) ∧ Hid (OwnS (Value.int .i64) wr w.heap.size 2 Ac (carC wd s dp ks)) ∧ Hid (OwnS (Value.int .i64) wr w.heap.size 2 Ab (putKs wd s dp (zerosC wd dp) (os.take i))) ∧ Hid (wd * dp ≤ cb ∧ cb ≤ 9223372036854775807) ∧ Hid (Below w3.heap.size w3 wr)) (fun t _ => os.length - (intOf t).toNat)
      case atStart => exact ⟨0, Ae, ce, Nat.zero_le _, rfl, hA, hC, hB, hxa2, hxc2, E3.out.below hW.out, hce, hW⟩
      case round =>
        clear hA hC hB hxa2 hxc2 hW
        obtain ⟨i, Ab, cb, hi, rfl, hA, hC, hB, hxa, hxc, hxb, hcb, hW⟩ := hrel
        by_cases hlt : i < os.length
        · have hil : (i : Int) < (os.length : Int) := by omega
          have hi0 : (0 : Int) ≤ (i : Int) := by omega
          obtain ⟨b0, o0, z, rfl, hcz, hz⟩ := (RO.out.below hW.out).at_ hlt
          obtain ⟨x1, hx1⟩ : ∃ l, l = putKs wd s dp (zerosC wd dp) (os.take (i + 1)) := ⟨_, rfl⟩
          have CP := hid (fun w' (h : RdL (Value.int .i64) w' Ab (putKs wd s dp (zerosC wd dp) (os.take i))) => fcPut OK.out.sym hz.out Ab cb w' h)
          rw [← hx1] at CP
          have HX1 := hid hx1
          have hxr := hid hxb.out.rd
          generalize putKs wd s dp (zerosC wd dp) (os.take i) = x0 at CP hxr
          clear hx1 hxb
          have hck := hcz
          have hbk : b0 < wr.heap.size := World.block_lt_of_cell? wr _ hck
          have l4 : w4.heap.size < wr.heap.size := hA.out.lt
          have l5 : w5.heap.size < wr.heap.size := hC.out.lt
          have l6 : w6.heap.size < wr.heap.size := hB.out.lt
          obtain ⟨a0, a1, a2, a3⟩ := hB.out.cells4
          go_wp2_with fail
          go_cut [21, 22] from 110 to 118 (fun vq vb wx => ∃ (q : Nat) (A1 : Option Addr) (c1 : Nat), vq = .pointer (some ⟨q, 0, none⟩) ∧ vb = .bool true ∧ Hid (BlkC wx q wd dp s A1 (wd * dp) c1) ∧ Hid (OwnS (Value.int .i64) wx wr.heap.size 2 A1 x1) ∧ Hid (wr.heap.size ≤ q) ∧ Hid (Below wr.heap.size wr wx) ∧ Hid (wd * dp ≤ c1 ∧ c1 ≤ 9223372036854775807))
          case first =>
            have H0 := hid (Below.refl wr.heap.size wr)
            go_region_held3 (fun w' => w'.cell? ⟨w6.heap.size, 0, none⟩ = some (.int .i64 wd) ∧ w'.cell? ⟨w6.heap.size, 1, none⟩ = some (.int .i64 dp) ∧ w'.cell? ⟨w6.heap.size, 2, none⟩ = some (.int .i64 s) ∧ w'.cell? ⟨w6.heap.size, 3, none⟩ = some (.slice Ab (wd * dp) cb) ∧ w'.cell? ⟨b0, o0 + i, none⟩ = some (.int .i64 z)) (first | go_keep | exact hS)
              (first
                | (go_at_call 38
                   refine (CP.out _ (RdL.below hxr.out (by repeat first | with_reducible exact Below.refl _ _ | (refine Hid.out ?_; assumption) | refine below_drewN ?_ _ | refine below_drew1 ?_ | refine below_alloc_ ?_ _))).mono ?_
                   rintro e W20 ⟨A1, c1, rfl, ho, hb, hcap⟩
                   have H22 : Hid (Below wr.heap.size wr W20) := below_next (by repeat first | with_reducible exact Below.refl _ _ | (refine Hid.out ?_; assumption) | refine below_drewN ?_ _ | refine below_drew1 ?_ | refine below_alloc_ ?_ _) hb
                   have hoo := hid (OwnS.mono ho (B' := wr.heap.size) (by first | exact Nat.le_refl _ | exact Nat.le_succ _ | (simp; done)))
                   first
                     | (have hQ := hid (Blk.below (Blk.new wr 37 [.int .i64 0, .int .i64 0, .int .i64 0, .slice none 0 0]) (below_drew'' hb)))
                     | (have hQ := hid (Blk.below (Blk.new wr 37 [.int .i64 0, .int .i64 0, .int .i64 0, .slice none 0 0]) (below_drew' hb)))
                     | (have hQ := hid (Blk.below (Blk.new wr 37 [.int .i64 0, .int .i64 0, .int .i64 0, .slice none 0 0]) hb))
                     | skip
                   first
                     | (obtain ⟨q0, q1, q2, q3⟩ := hQ.out.cells4
                        have qf0 := hQ.out.frozen 0
                        have qf1 := hQ.out.frozen 1
                        have qf2 := hQ.out.frozen 2
                        have qf3 := hQ.out.frozen 3
                        have hqm0 : w6.heap.size ≠ wr.heap.size := by omega
                        have hqn0 := Ne.symm hqm0
                        have hqm1 : b0 ≠ wr.heap.size := by omega
                        have hqn1 := Ne.symm hqm1)
                     | skip
                   have hS := And.intro (Blk.below hB.out H22.out).cells4 ((H22.out.cell (p := ⟨b0, o0 + i, none⟩) hbk).trans hck)
                   simp only [and_assoc] at hS
                   clear hb ho))
            all_goals
              first
              | (have hql := hQ.out.lt
                 go_wp2_with fail
                 go_meet
                 exact ⟨_, _, _, rfl, rfl, hid (blk_st hQ.out _ _ _ _), hid (own_st hoo.out hQ.out _ _ _ _), hid (Nat.le_refl _), hid (below_st H22.out (Nat.le_refl _) _ _ _ _), hid hcap⟩)
              | (go_wp2_with fail
                 go_meet
                 exact ⟨_, _, _, rfl, rfl, hid (Blk.new _ _ _), hid (OwnS.below hoo.out (below_a1 _ _)), hid H22.out.size, hid (below_alloc_ H22.out _), hid hcap⟩)
          case' rest =>
          obtain ⟨g1, Ax, cx, rfl, rfl, hB1, hO1, hg1, hW1, hc1⟩ := hcut
          obtain ⟨WA, hWA⟩ : ∃ WA, WA = wc := ⟨_, rfl⟩
          subst hWA
          have hA2 := hid (hA.out.below hW1.out)
          have hC2 := hid (hC.out.below hW1.out)
          have hB2 := hid (hB.out.below hW1.out)
          have hWW := hid (hW.out.trans (hW1.out.mono hW.out.size))
          have hxa2 := hid (hxa.out.below hW1.out)
          have hxc2 := hid (hxc.out.below hW1.out)
          have hg1' := hg1.out
          have n1 : g1 ≠ w6.heap.size := by omega
          have p1 := Ne.symm n1
          have n6 : w4.heap.size ≠ w6.heap.size := by omega
          have n7 : w5.heap.size ≠ w6.heap.size := by omega
          clear a0 a1 a2 a3 CP hA hC hB hcz hxr hck hxa hxc
          obtain ⟨e0, e1, e2, e3⟩ := hB1.out.cells4
          obtain ⟨a0, a1, a2, a3⟩ := hB2.out.cells4
          have af0 := hB2.out.frozen 0
          have af1 := hB2.out.frozen 1
          have af2 := hB2.out.frozen 2
          have af3 := hB2.out.frozen 3
          go_wp2
          clear a0 a1 a2 a3 e0 e1 e2 e3 af0 af1 af2 af3
          have hBw : w.heap.size ≤ wr.heap.size := Nat.le_trans S3.out.size hW.out.size
          have o1 : OwnS (Value.int .i64) WA w.heap.size 2 Ax (putKs wd s dp (zerosC wd dp) (os.take (i + 1))) := by rw [← HX1.out]; exact hO1.out.mono hBw
          exact ⟨⟨i + 1, Ax, cx, by omega, by go_num, hid (blk_far hA2.out n6 _ _ _ _), hid (blk_far hC2.out n7 _ _ _ _), hid (blk_st hB2.out _ _ _ _), hid (own_st hxa2.out hB2.out _ _ _ _), hid (own_st hxc2.out hB2.out _ _ _ _), hid (own_st o1 hB2.out _ _ _ _), hc1, hid (below_st hWW.out (by omega) _ _ _ _)⟩, by simp [intOf]; omega⟩
        · have hil : ¬ (i : Int) < (os.length : Int) := by omega
          obtain rfl : i = os.length := by omega
          have hxb2 : Hid (OwnS (Value.int .i64) wr w.heap.size 2 Ab (putC wd s dp os)) := by have := hxb.out; rw [List.take_length] at this; exact this
          clear hxb hi hlt hil
          have CM := hid (fcMerge OK.out Aa ca Ab cb wr hxa.out.rd hxb2.out.rd)
          obtain ⟨a0, a1, a2, a3⟩ := hA.out.cells4
          obtain ⟨c0, c1, c2, c3⟩ := hB.out.cells4
          go_wp2
          refine reach_seq ?_
          go_wp2_with fail
          refine CM.out.mono ?_
          rintro e w8 ⟨Am, cm, rfl, hom, hbm⟩
          have l8 := hbm.size
          have hA2 := hid ((hA.out.below hbm).alloc (Obj.cells #[.int .i64 (wd : Nat), .int .i64 (dp : Nat), .int .i64 (s : Nat), .slice Am (wd * dp) cm] 37))
          have hC2 := hid ((hC.out.below hbm).alloc (Obj.cells #[.int .i64 (wd : Nat), .int .i64 (dp : Nat), .int .i64 (s : Nat), .slice Am (wd * dp) cm] 37))
          have hB2 := hid ((hB.out.below hbm).alloc (Obj.cells #[.int .i64 (wd : Nat), .int .i64 (dp : Nat), .int .i64 (s : Nat), .slice Am (wd * dp) cm] 37))
          have hM2 := hid (Blk.new w8 37 [.int .i64 (wd : Nat), .int .i64 (dp : Nat), .int .i64 (s : Nat), .slice Am (wd * dp) cm])
          have hW2 := hid ((hW.out.trans (hbm.mono hW.out.size)).alloc (by have := hW.out.size; omega) (Obj.cells #[.int .i64 (wd : Nat), .int .i64 (dp : Nat), .int .i64 (s : Nat), .slice Am (wd * dp) cm] 37))
          have hxa2 := hid ((hxa.out.below hbm).below (below_a1 w8 (Obj.cells #[.int .i64 (wd : Nat), .int .i64 (dp : Nat), .int .i64 (s : Nat), .slice Am (wd * dp) cm] 37)))
          have hxc2 := hid ((hxc.out.below hbm).below (below_a1 w8 (Obj.cells #[.int .i64 (wd : Nat), .int .i64 (dp : Nat), .int .i64 (s : Nat), .slice Am (wd * dp) cm] 37)))
          have hxb3 := hid ((hxb2.out.below hbm).below (below_a1 w8 (Obj.cells #[.int .i64 (wd : Nat), .int .i64 (dp : Nat), .int .i64 (s : Nat), .slice Am (wd * dp) cm] 37)))
          have hBw : w.heap.size ≤ wr.heap.size := Nat.le_trans S3.out.size hW.out.size
          have hxm2 := hid ((hom.mono hBw).below (below_a1 w8 (Obj.cells #[.int .i64 (wd : Nat), .int .i64 (dp : Nat), .int .i64 (s : Nat), .slice Am (wd * dp) cm] 37)))
          have hlm : w.heap.size ≤ w8.heap.size := by omega
          clear a0 a1 a2 a3 c0 c1 c2 c3 CM hom hbm hA hC hB hW hxa hxc hxb2 l8
          go_wp2
          generalize w8.alloc (Obj.cells #[.int .i64 (wd : Nat), .int .i64 (dp : Nat), .int .i64 (s : Nat), .slice Am (wd * dp) cm] 37) = w9 at hA2 hC2 hB2 hM2 hW2 hxa2 hxc2 hxb3 hxm2 ⊢
          have CT := hid (fcTotal OK.out Aa ca w9 hxa2.out.rd hca.out)
          obtain ⟨a0, a1, a2, a3⟩ := hA2.out.cells4
          refine reach_seq ?_
          go_wp2_with fail
          refine CT.out.mono ?_
          rintro e w10 ⟨rfl, hbt⟩
          clear CT a0 a1 a2 a3
          have bl : Below w3.heap.size w3 w10 := hW2.out.trans (hbt.mono hW2.out.size)
          have hsz3 := S3.out.size
          go_wp2
          refine reach_here ?_
          exact ⟨rfl, wd, dp, s, ks, os, Ak, ck, Ao, co, w4.heap.size, w5.heap.size, w6.heap.size, w8.heap.size, Aa, ca, Ac, cc, Ab, cb, Am, cm, by kernel_rfl,
            ⟨OK.out, K3.out.below bl, O3.out.below bl, hA2.out.below hbt, hC2.out.below hbt, hB2.out.below hbt, hM2.out.below hbt, by omega, by omega, by omega, hlm, hxa2.out.below hbt, hxc2.out.below hbt, hxb3.out.below hbt, hxm2.out.below hbt, hca.out, hcb.out⟩⟩
end Go.Proofs.Ytmmolicodlmlkaa.Ph
namespace Go.Proofs.Ytmmolicodlmlkaa.Ph
open Go.Conc Go.ConcN Go.RowKit
open Go.Proofs.Ytmmolicodlmlkaa.Rel
set_option linter.unusedVariables false
set_option linter.unusedSimpArgs false

abbrev arrF1 (T : Nat → Value) (v0 v1 v5 v6 v7 v8 v9 v11 v12 v13 v14 v23 v24 v25 v26 v144 : Value) : Array Value := #[v0, v1, T 2, T 3, T 4, v5, v6, v7, v8, v9, T 10, v11, v12, v13, v14, T 15, T 16, T 17, T 18, T 19, T 20, T 21, T 22, v23, v24, v25, v26, T 27, T 28, T 29, T 30, T 31, T 32, T 33, T 34, T 35, T 36, T 37, T 38, T 39, T 40, T 41, T 42, T 43, T 44, T 45, T 46, T 47, T 48, T 49, T 50, T 51, T 52, T 53, T 54, T 55, T 56, T 57, T 58, T 59, T 60, T 61, T 62, T 63, T 64, T 65, T 66, T 67, T 68, T 69, T 70, T 71, T 72, T 73, T 74, T 75, T 76, T 77, T 78, T 79, T 80, T 81, T 82, T 83, T 84, T 85, T 86, T 87, T 88, T 89, T 90, T 91, T 92, T 93, T 94, T 95, T 96, T 97, T 98, T 99, T 100, T 101, T 102, T 103, T 104, T 105, T 106, T 107, T 108, T 109, T 110, T 111, T 112, T 113, T 114, T 115, T 116, T 117, T 118, T 119, T 120, T 121, T 122, T 123, T 124, T 125, T 126, T 127, T 128, T 129, T 130, T 131, T 132, T 133, T 134, T 135, T 136, T 137, T 138, T 139, T 140, T 141, T 142, T 143, v144, T 145, T 146, T 147, T 148, T 149, T 150, T 151, T 152, T 153, T 154, T 155, T 156, T 157, T 158, T 159, T 160, T 161, T 162, T 163, T 164, T 165, T 166, T 167, T 168, T 169, T 170, T 171, T 172, T 173, T 174, T 175, T 176, T 177, T 178, T 179, T 180, T 181, T 182, T 183, T 184, T 185, T 186, T 187, T 188, T 189, T 190, T 191, T 192, T 193, T 194, T 195, T 196, T 197, T 198, T 199, T 200, T 201, T 202, T 203, T 204, T 205, T 206, T 207, T 208, T 209, T 210, T 211, T 212, T 213, T 214, T 215, T 216, T 217, T 218, T 219, T 220, T 221, T 222, T 223, T 224, T 225, T 226, T 227, T 228, T 229, T 230, T 231, T 232, T 233, T 234, T 235, T 236, T 237, T 238, T 239, T 240, T 241, T 242, T 243, T 244, T 245, T 246, T 247, T 248, T 249, T 250, T 251, T 252, T 253, T 254, T 255, T 256, T 257, T 258, T 259, T 260, T 261, T 262, T 263, T 264, T 265, T 266, T 267, T 268, T 269, T 270, T 271, T 272, T 273, T 274, T 275, T 276, T 277, T 278, T 279, T 280, T 281, T 282, T 283, T 284, T 285, T 286, T 287, T 288, T 289, T 290, T 291, T 292, T 293, T 294, T 295, T 296, T 297, T 298, T 299, T 300, T 301, T 302, T 303, T 304, T 305, T 306, T 307, T 308, T 309, T 310, T 311, T 312, T 313, T 314, T 315, T 316, T 317, T 318, T 319]
set_option maxRecDepth 100000 in
theorem abs_arrF1 (Fs : Fns) (B : Nat) (T : Nat → Value) (v0 v1 v5 v6 v7 v8 v9 v11 v12 v13 v14 v23 v24 v25 v26 v144 : Value) : absA Fs B ⟨arrF1 T v0 v1 v5 v6 v7 v8 v9 v11 v12 v13 v14 v23 v24 v25 v26 v144, []⟩ = ⟨arrF1 (fun i => absV Fs B (T i)) (absV Fs B v0) (absV Fs B v1) (absV Fs B v5) (absV Fs B v6) (absV Fs B v7) (absV Fs B v8) (absV Fs B v9) (absV Fs B v11) (absV Fs B v12) (absV Fs B v13) (absV Fs B v14) (absV Fs B v23) (absV Fs B v24) (absV Fs B v25) (absV Fs B v26) (absV Fs B v144), []⟩ := by
  unfold absA arrF1
  simp only [List.map_toArray, List.map_cons, List.map_nil]
/-- The operations behind the first k. -/
theorem wpOps_back {P : Program} {ops : Array Oper} {Q : Exit → Act → World → Prop} {a : Act} {w : World} (k : Nat) {rest : List Nat} (hr : rest = List.range' k (ops.toList.drop k).length) (h : wpList P ops Q (ops.toList.drop k) a w) : wpOps P ops Q rest a w := by
  rw [hr]
  refine wpOps_from k _ rfl (fun j => ?_) h
  rw [List.getElem?_drop, Array.getElem?_toList]
theorem cell_grown' {w w' : World} {a : Addr} {v : Value} (h : w.cell? a = some v) (hb : Below w.heap.size w w') : w'.cell? a = some v := (hb.cell (World.block_lt_of_cell? w a h)).trans h
/-- The fields of cells in a box. -/
abbrev Bc (w : World) (b : Nat) (d0 d1 d2 : Int) (A : Option Addr) (n c : Nat) : Prop := w.cell? ⟨b, 0, none⟩ = some (.int .i64 d0) ∧ w.cell? ⟨b, 1, none⟩ = some (.int .i64 d1) ∧ w.cell? ⟨b, 2, none⟩ = some (.int .i64 d2) ∧ w.cell? ⟨b, 3, none⟩ = some (.slice A n c)
theorem bc_below {w w' : World} {b n c : Nat} {d0 d1 d2 : Int} {A : Option Addr} (h : Bc w b d0 d1 d2 A n c) (hb : Below w.heap.size w w') : Bc w' b d0 d1 d2 A n c := ⟨cell_grown' h.1 hb, cell_grown' h.2.1 hb, cell_grown' h.2.2.1 hb, cell_grown' h.2.2.2 hb⟩
/-- What the tail reads. -/
structure FcRd (wd dp s : Nat) (ks os : List Int) (Ak Ao : Option Addr) (ba bc bb bm : Nat) (Aa : Option Addr) (ca : Nat) (Ac : Option Addr) (cc : Nat) (Ab : Option Addr) (cb : Nat) (Am : Option Addr) (cm : Nat) (As : Option Addr) (w : World) : Prop where
  K : RdL (Value.int .i64) w Ak ks
  O : RdL (Value.int .i64) w Ao os
  a : Bc w ba wd dp s Aa (wd * dp) ca
  c : Bc w bc wd dp s Ac (wd * dp) cc
  b : Bc w bb wd dp s Ab (wd * dp) cb
  m : Bc w bm wd dp s Am (wd * dp) cm
  xa : RdL (Value.int .i64) w Aa (putC wd s dp ks)
  xc : RdL (Value.int .i64) w Ac (carC wd s dp ks)
  xb : RdL (Value.int .i64) w Ab (putC wd s dp os)
  xm : RdL (Value.int .i64) w Am (bothC wd s dp ks os)
  xs : RdL (Value.int .i64) w As (bothC wd s dp ks os)
section
variable {wd dp s : Nat} {ks os : List Int} {Ak Ao : Option Addr} {ba bc bb bm : Nat} {Aa : Option Addr} {ca : Nat} {Ac : Option Addr} {cc : Nat} {Ab : Option Addr} {cb : Nat} {Am : Option Addr} {cm : Nat} {As : Option Addr}
theorem FcRd.below {w w' : World} (h : FcRd wd dp s ks os Ak Ao ba bc bb bm Aa ca Ac cc Ab cb Am cm As w) (hb : Below w.heap.size w w') : FcRd wd dp s ks os Ak Ao ba bc bb bm Aa ca Ac cc Ab cb Am cm As w' :=
  ⟨h.K.below hb, h.O.below hb, bc_below h.a hb, bc_below h.c hb, bc_below h.b hb, bc_below h.m hb, h.xa.below hb, h.xc.below hb, h.xb.below hb, h.xm.below hb, h.xs.below hb⟩
end
section
variable {wd dp s : Nat} {ks os x : List Int}
theorem fcDot (h : FcOk wd dp s ks os) (A : Option Addr) (c : Nat) (A' : Option Addr) (c' : Nat) (hc : wd * dp ≤ c ∧ c ≤ 9223372036854775807) (hc' : wd * dp ≤ c' ∧ c' ≤ 9223372036854775807) : ∃ d : Int, prodsN ks os 9 ≤ d ∧ ∀ w, RdL (Value.int .i64) w A (putC wd s dp ks) → RdL (Value.int .i64) w A' (putC wd s dp os) →
    Calls Try.prog 42 #[.agg #[.int .i64 (wd : Nat), .int .i64 (dp : Nat), .int .i64 (s : Nat), .slice A (wd * dp) c], .agg #[.int .i64 (wd : Nat), .int .i64 (dp : Nat), .int .i64 (s : Nat), .slice A' (wd * dp) c']] w fun e w' => e = .returned (.tuple #[.int .i64 d, .bool true]) ∧ Below w.heap.size w w' := by
  have := h.w1; have := h.w2; have := h.d1; have := h.d2; have := h.s2
  have hsz := h.sz
  obtain ⟨d, e, hd⟩ := h.dot
  refine ⟨d, hd, fun w hr hr' => ?_⟩
  have hc := iCellsDot_big (wd : Int) (dp : Int) (s : Int) A c (putC wd s dp ks) (wd : Int) (dp : Int) (s : Int) A' c' (putC wd s dp os) w (w64_of (by omega)) (w64_of (by omega)) (w64_of (by omega)) hr (by rw [putZ_length]; omega) (w64_m h.putA) (w64_of (by omega)) (w64_of (by omega)) (w64_of (by omega)) hr' (by rw [putZ_length]; omega) (w64_m h.sym.putA) (by rw [putZ_length, putZ_length]; exact ⟨hc, hc'⟩)
  rw [putZ_length, putZ_length, e] at hc
  exact hc
theorem fcValid (h : FcOk wd dp s ks os) (A : Option Addr) (c : Nat) (w : World) (hr : RdL (Value.int .i64) w A (putC wd s dp ks)) :
    Calls Try.prog 43 #[.agg #[.int .i64 (wd : Nat), .int .i64 (dp : Nat), .int .i64 (s : Nat), .slice A (wd * dp) c]] w fun e w' => e = .returned (.bool true) ∧ Below w.heap.size w w' := by
  have := h.w1; have := h.w2; have := h.d1; have := h.d2; have := h.s2
  have hsz := h.sz
  have hc := iValidCells_any (wd : Int) (dp : Int) (s : Int) A c (putC wd s dp ks) w (w64_of (by omega)) (w64_of (by omega)) (w64_of (by omega)) hr (by rw [putZ_length]; omega) (w64_m h.putA)
  rw [putZ_length, h.valid (putZ_length _) h.putA] at hc
  exact hc
theorem fcSValid (h : FcOk wd dp s ks os) (A : Option Addr) (c : Nat) (w : World) (hr : RdL (Value.int .i64) w A (putC wd s dp ks)) :
    Calls Try.prog 44 #[.agg #[.int .i64 (wd : Nat), .int .i64 (dp : Nat), .int .i64 (s : Nat), .slice A (wd * dp) c]] w fun e w' => e = .returned (.bool true) ∧ Below w.heap.size w w' := by
  have := h.w1; have := h.w2; have := h.d1; have := h.d2; have := h.s2
  have hsz := h.sz
  have hc := sValidCells_any (wd : Int) (dp : Int) (s : Int) A c (putC wd s dp ks) w (w64_of (by omega)) (w64_of (by omega)) (w64_of (by omega)) hr (by rw [putZ_length]; omega) (w64_m h.putA)
  rw [putZ_length, h.valid (putZ_length _) h.putA] at hc
  exact hc
theorem fcSame (h : FcOk wd dp s ks os) (A : Option Addr) (c : Nat) (A' : Option Addr) (c' : Nat) (w : World) (hr : RdL (Value.int .i64) w A (bothC wd s dp ks os)) (hr' : RdL (Value.int .i64) w A' (bothC wd s dp ks os)) :
    Calls Try.prog 45 #[.agg #[.int .i64 (wd : Nat), .int .i64 (dp : Nat), .int .i64 (s : Nat), .slice A (wd * dp) c], .agg #[.int .i64 (wd : Nat), .int .i64 (dp : Nat), .int .i64 (s : Nat), .slice A' (wd * dp) c']] w fun e w' => e = .returned (.bool true) ∧ Below w.heap.size w w' := by
  have := h.w1; have := h.w2; have := h.d1; have := h.d2; have := h.s2
  have hsz := h.sz
  have hc := iSameCells_any (wd : Int) (dp : Int) (s : Int) A c (bothC wd s dp ks os) (wd : Int) (dp : Int) (s : Int) A' c' (bothC wd s dp ks os) w (w64_of (by omega)) (w64_of (by omega)) (w64_of (by omega)) hr (by rw [bothC_length]; omega) (w64_l h.bothA) (w64_of (by omega)) (w64_of (by omega)) (w64_of (by omega)) hr' (by rw [bothC_length]; omega) (w64_l h.bothA)
  rw [bothC_length, show sameCells (wd : Int) wd (dp : Int) dp (s : Int) s (bothC wd s dp ks os) (bothC wd s dp ks os) = true by simp [sameCells]] at hc
  exact hc
theorem fcInts (h : FcOk wd dp s ks os) (A : Option Addr) (c : Nat) (A' : Option Addr) (c' : Nat) (w : World) (hr : RdL (Value.int .i64) w A (bothC wd s dp ks os)) (hr' : RdL (Value.int .i64) w A' (bothC wd s dp ks os)) :
    Calls Try.prog 46 #[.slice A (wd * dp) c, .slice A' (wd * dp) c'] w fun e w' => e = .returned (.bool true) ∧ Below w.heap.size w w' := by
  have hsz := h.sz
  have hc := b10Ints_yes A A' c c' (bothC wd s dp ks os) w hr hr' (by rw [bothC_length]; omega)
  rw [bothC_length] at hc
  exact hc.mono fun e w' ⟨h1, n, h2⟩ => ⟨h1, below_of_draw h2⟩
theorem fcAt (h : FcOk wd dp s ks os) (hl : x.length = wd * dp) (hb : ∀ y ∈ x, 0 ≤ y ∧ y ≤ 2000) (A : Option Addr) (c : Nat) (key : Nat) (hk : key ≤ 8) (w : World) (hr : RdL (Value.int .i64) w A x) :
    Calls Try.prog 48 #[.agg #[.int .i64 (wd : Nat), .int .i64 (dp : Nat), .int .i64 (s : Nat), .slice A (wd * dp) c], .int .i64 (key : Nat)] w fun e w' => e = .returned (.tuple #[.int .i64 (minAtM 1000000000000 x (cellsL wd s key dp)), .bool true]) ∧ Below w.heap.size w w' := by
  have := h.w1; have := h.w2; have := h.d1; have := h.d2; have := h.s2
  have hsz := h.sz
  have hc := iCellsAt_any (wd : Int) (dp : Int) (s : Int) A c x (key : Int) w (w64_of (by omega)) (w64_of (by omega)) (w64_of (by omega)) hr (by rw [hl]; omega) (w64_l hb) (w64_of (by omega))
  rw [h.at hl hb (by omega) (by omega), hl, Int.toNat_natCast] at hc
  exact hc
theorem fcPlaces (h : FcOk wd dp s ks os) (hl : x.length = wd * dp) (hb : ∀ y ∈ x, 0 ≤ y ∧ y ≤ 2000) (A : Option Addr) (c : Nat) (key : Nat) (hk : key ≤ 8) (w : World) (hr : RdL (Value.int .i64) w A x) :
    Calls Try.prog 49 #[.agg #[.int .i64 (wd : Nat), .int .i64 (dp : Nat), .int .i64 (s : Nat), .slice A (wd * dp) c], .int .i64 (key : Nat)] w fun e w' => ∃ P c, e = .returned (.tuple #[.slice P dp c, .bool true]) ∧ RdL (Value.int .i64) w' P (cellsL wd s key dp) ∧ Below w.heap.size w w' := by
  have := h.w1; have := h.w2; have := h.d1; have := h.d2; have := h.s2
  have hsz := h.sz
  have hc := iPlacesOf_any (wd : Int) (dp : Int) (s : Int) A c x (key : Int) w (w64_of (by omega)) (w64_of (by omega)) (w64_of (by omega)) hr (by rw [hl]; omega) (w64_l hb) (w64_of (by omega))
  rw [h.places hl hb (by omega) (by omega), hl, Int.toNat_natCast] at hc
  refine hc.mono fun e w' he => ?_
  obtain ⟨P, c, e1, e2, _, e4⟩ := he
  simp only [cellsL_length] at e1
  exact ⟨P, c, e1, e2.rd, e4⟩
theorem fcHow (A : Option Addr) (c : Nat) (l : List Int) (hl : l.length ≤ 1048576) (key : Nat) (w : World) (hr : RdL (Value.int .i64) w A l) (m : Nat) (hm : l.count (key : Int) = m) : Calls Try.prog 47 #[.slice A l.length c, .int .i64 (key : Nat)] w fun e w' => e = .returned (.int .i64 (m : Nat)) ∧ w = w' := by
  subst hm
  exact b10How_any A c l (key : Int) w hr hl
end
set_option maxRecDepth 100000 in
set_option maxHeartbeats 16000000 in
theorem fc_tail (T : Nat → Value) (v0 v1 v9 : Value) (wd dp s : Nat) (ks os : List Int) (Ak : Option Addr) (ck : Nat) (Ao : Option Addr) (co : Nat) (ba bc bb bm : Nat) (Aa : Option Addr) (ca : Nat) (Ac : Option Addr) (cc : Nat) (Ab : Option Addr) (cb : Nat) (Am : Option Addr) (cm : Nat) (As : Option Addr) (cs : Nat) (w : World)
    (hok : FcOk wd dp s ks os) (hka : wd * dp ≤ ca ∧ ca ≤ 9223372036854775807) (hkb : wd * dp ≤ cb ∧ cb ≤ 9223372036854775807) (hR : FcRd wd dp s ks os Ak Ao ba bc bb bm Aa ca Ac cc Ab cb Am cm As w) :
    EndsM Try.prog fy15 [10, 11, 12, 13, 14, 15] 9 fc16 (fun u w' => u = .bool true)
      ⟨arrF1 T v0 v1 (.slice Ak ks.length ck) (.slice Ao os.length co) (.int .i64 (wd : Nat)) (.int .i64 (dp : Nat)) v9 (.bool true) (ptrB ba) (ptrB bc) (ptrB bb) (ptrB bm) (.bool true) (.int .i64 (ks.length : Nat)) (.bool true) (.tuple #[.agg #[.int .i64 (wd : Nat), .int .i64 (dp : Nat), .int .i64 (s : Nat), .slice As (wd * dp) cs], .bool true]), []⟩ w := by
  have OK := hid hok
  obtain ⟨d, hd, CD0⟩ := fcDot hok Aa ca Ab cb hka hkb
  have CD := hid CD0
  have HD := hid hd
  have hw1 := hok.w1
  have hw2 := hok.w2
  have hd1 := hok.d1
  have hd2 := hok.d2
  have hkl := hok.kl
  have hol := hok.ol
  have hmb := hok.sz
  have v1' : IntKind.i64.wrap ((wd : Int) * (dp : Int)) = (wd : Int) * (dp : Int) := by
    have hml : ((wd : Int) * (dp : Int)) = ((wd * dp : Nat) : Int) := by simp
    rw [IntKind.wrap_i64]; omega
  have hS : Hid (Bc (w.alloc (Obj.cells #[.int .i64 (wd : Nat), .int .i64 (dp : Nat), .int .i64 (s : Nat), .slice As (wd * dp) cs] 37)) w.heap.size wd dp s As (wd * dp) cs) := (Blk.new w 37 [.int .i64 (wd : Nat), .int .i64 (dp : Nat), .int .i64 (s : Nat), .slice As (wd * dp) cs]).cells4
  have R1 : Hid (FcRd wd dp s ks os Ak Ao ba bc bb bm Aa ca Ac cc Ab cb Am cm As (w.alloc (Obj.cells #[.int .i64 (wd : Nat), .int .i64 (dp : Nat), .int .i64 (s : Nat), .slice As (wd * dp) cs] 37))) := hR.below (below_a1 _ _)
  clear hR hd CD0 hok
  refine endsM_of (wpOps_back 10 (by kernel_rfl) ?_)
  simp only [fy15, fc16, Try.f9, List.drop_succ_cons, List.drop_zero]
  go_wp2
  generalize w.alloc (Obj.cells #[.int .i64 (wd : Nat), .int .i64 (dp : Nat), .int .i64 (s : Nat), .slice As (wd * dp) cs] 37) = w1 at hS R1 ⊢
  generalize w.heap.size = bs at hS ⊢
  simp only [Rel.Ends]
  obtain ⟨a0, a1, a2, a3⟩ := R1.out.a
  obtain ⟨c0, c1, c2, c3⟩ := R1.out.b
  go_wp2_with fail
  refine (CD.out _ R1.out.xa R1.out.xb).mono ?_
  rintro e w2 ⟨rfl, hb⟩
  have R2 := hid (R1.out.below hb)
  have S2 := hid (bc_below hS.out hb)
  clear hb R1 hS CD a0 a1 a2 a3 c0 c1 c2 c3
  obtain ⟨a0, a1, a2, a3⟩ := R2.out.a
  have CV := hid (fcValid OK.out Aa ca w2 R2.out.xa)
  go_wp2_with fail
  refine CV.out.mono ?_
  rintro e w3 ⟨rfl, hb⟩
  have R3 := hid (R2.out.below hb)
  have S3 := hid (bc_below S2.out hb)
  clear hb R2 S2 CV a0 a1 a2 a3
  obtain ⟨a0, a1, a2, a3⟩ := R3.out.a
  have CV := hid (fcSValid OK.out Aa ca w3 R3.out.xa)
  go_wp2_with fail
  refine CV.out.mono ?_
  rintro e w4 ⟨rfl, hb⟩
  have R4 := hid (R3.out.below hb)
  have S4 := hid (bc_below S3.out hb)
  clear hb R3 S3 CV a0 a1 a2 a3
  obtain ⟨a0, a1, a2, a3⟩ := R4.out.a
  obtain ⟨b0, b1, b2, b3⟩ := S4.out
  obtain ⟨c0, c1, c2, c3⟩ := R4.out.m
  have CV := hid (fcSame OK.out As cs Am cm w4 R4.out.xs R4.out.xm)
  have CW := hid (fun w' (h1 : RdL (Value.int .i64) w' As (bothC wd s dp ks os)) (h2 : RdL (Value.int .i64) w' Am (bothC wd s dp ks os)) => fcInts OK.out As cs Am cm w' h1 h2)
  go_wp2_with (first
    | (go_at_call 45
       refine CV.out.mono ?_
       rintro e w5 ⟨rfl, hb⟩
       have R5 := hid (R4.out.below hb)
       have S5 := bc_below S4.out hb
       clear hb R4 S4 CV a0 a1 a2 a3 b0 b1 b2 b3 c0 c1 c2 c3
       obtain ⟨b0, b1, b2, b3⟩ := S5
       obtain ⟨c0, c1, c2, c3⟩ := R5.out.m)
    | (go_at_call 46
       refine (CW.out _ R5.out.xs R5.out.xm).mono ?_
       rintro e w6 ⟨rfl, hb⟩))
  have R6 := hid (R5.out.below hb)
  clear hb R5 CW b0 b1 b2 b3 c0 c1 c2 c3 v1'
  go_loopw [31, 32] (fun p k wr => ∃ m : Nat, m ≤ 9 ∧ k = .int .i64 m ∧ p = .int .i64 (prodsN ks os m) ∧ Hid (Below w6.heap.size w6 wr)) (fun _ k _ => 9 - (intOf k).toNat)
  case atStart => exact ⟨0, by omega, rfl, rfl, Below.refl _ _⟩
  case round =>
    obtain ⟨m, hm, rfl, rfl, hW⟩ := hrel
    by_cases hlt : m < 9
    · have hil : (m : Int) < 9 := by omega
      have R7 := hid (R6.out.below hW.out)
      obtain ⟨hk, ehk⟩ : ∃ n, ks.count (m : Int) = n := ⟨_, rfl⟩
      obtain ⟨ho, eho⟩ : ∃ n, os.count (m : Int) = n := ⟨_, rfl⟩
      have bk : hk ≤ 19 := by rw [← ehk]; exact Nat.le_trans List.count_le_length hkl
      have bo : ho ≤ 19 := by rw [← eho]; exact Nat.le_trans List.count_le_length hol
      obtain ⟨xa, exa⟩ : ∃ z, minAtM 1000000000000 (putC wd s dp ks) (cellsL wd s m dp) = z := ⟨_, rfl⟩
      obtain ⟨xc, exc⟩ : ∃ z, minAtM 1000000000000 (carC wd s dp ks) (cellsL wd s m dp) = z := ⟨_, rfl⟩
      obtain ⟨xm, exm⟩ : ∃ z, minAtM 1000000000000 (bothC wd s dp ks os) (cellsL wd s m dp) = z := ⟨_, rfl⟩
      have i1 : ¬ xa < (hk : Int) := by have := OK.out.how_le (key := (m : Int)) (by omega); rw [Int.toNat_natCast, ehk, exa] at this; omega
      have i2 : ¬ xc < (hk : Int) := by have := OK.out.how_car (key := (m : Int)) (by omega); rw [Int.toNat_natCast, ehk, exc] at this; omega
      have i3 : ¬ xa < xc := by have := OK.out.car_put (m : Int); rw [Int.toNat_natCast, exa, exc] at this; omega
      have i4 : ¬ xm < (hk : Int) + (ho : Int) := by have := OK.out.how_both (key := (m : Int)) (by omega); rw [Int.toNat_natCast, ehk, eho, exm] at this; omega
      have CA := hid (fun w' (h : RdL (Value.int .i64) w' Aa (putC wd s dp ks)) => exa ▸ fcAt OK.out (putZ_length _) (fun y hy => ⟨(OK.out.putA y hy).1, Int.le_trans (OK.out.putA y hy).2 (by decide)⟩) Aa ca m (by omega) w' h)
      have CC := hid (fun w' (h : RdL (Value.int .i64) w' Ac (carC wd s dp ks)) => exc ▸ fcAt OK.out (carZ_length _) (fun y hy => ⟨(OK.out.carA y hy).1, Int.le_trans (OK.out.carA y hy).2 (by decide)⟩) Ac cc m (by omega) w' h)
      have CM := hid (fun w' (h : RdL (Value.int .i64) w' Am (bothC wd s dp ks os)) => exm ▸ fcAt OK.out bothC_length OK.out.bothA Am cm m (by omega) w' h)
      have CP := hid (fun w' (h : RdL (Value.int .i64) w' Aa (putC wd s dp ks)) => fcPlaces OK.out (putZ_length _) (fun y hy => ⟨(OK.out.putA y hy).1, Int.le_trans (OK.out.putA y hy).2 (by decide)⟩) Aa ca m (by omega) w' h)
      have CK := hid (fun w' (h : RdL (Value.int .i64) w' Ak ks) => fcHow Ak ck ks (by omega) m w' h hk ehk)
      have CO := hid (fun w' (h : RdL (Value.int .i64) w' Ao os) => fcHow Ao co os (by omega) m w' h ho eho)
      have hpl := prodsN_low ks os m
      have hph := prodsN_hi hkl hol m
      have hpn : Hid (prodsN ks os (m + 1) = prodsN ks os m + (hk : Int) * (ho : Int)) := by show _ = _; rw [prodsN, ehk, eho]
      have hmul : (hk : Int) * (ho : Int) ≤ 361 ∧ 0 ≤ (hk : Int) * (ho : Int) := by
        have h1 : hk * ho ≤ 19 * 19 := Nat.mul_le_mul bk bo
        have h2 : ((hk : Int) * (ho : Int)) = ((hk * ho : Nat) : Int) := by simp
        omega
      generalize hpe : prodsN ks os m = pr at hpl hph hpn ⊢
      clear hpe ehk eho exa exc exm
      have u1 : IntKind.i64.wrap ((hk : Int) + (ho : Int)) = (hk : Int) + (ho : Int) := by rw [IntKind.wrap_i64]; omega
      have u2 : IntKind.i64.wrap ((hk : Int) * (ho : Int)) = (hk : Int) * (ho : Int) := by rw [IntKind.wrap_i64]; omega
      have u3 : IntKind.i64.wrap (pr + (hk : Int) * (ho : Int)) = pr + (hk : Int) * (ho : Int) := by rw [IntKind.wrap_i64]; omega
      have u4 : IntKind.i64.wrap ((m : Int) + 1) = (m : Int) + 1 := by rw [IntKind.wrap_i64]; omega
      go_wp2_with fail
      refine (CK.out wr R7.out.K).mono ?_
      rintro e w' ⟨rfl, rfl⟩
      obtain ⟨a0, a1, a2, a3⟩ := R7.out.a
      go_wp2_with fail
      refine (CA.out wr R7.out.xa).mono ?_
      rintro e w7 ⟨rfl, hb⟩
      have R8 := hid (R7.out.below hb)
      have W7 := hid (hW.out.trans (hb.mono hW.out.size))
      clear a0 a1 a2 a3 R7 hb hW CA CK
      obtain ⟨a0, a1, a2, a3⟩ := R8.out.c
      go_wp2_with fail
      refine (CC.out w7 R8.out.xc).mono ?_
      rintro e w8 ⟨rfl, hb⟩
      have R9 := hid (R8.out.below hb)
      have W8 := hid (W7.out.trans (hb.mono W7.out.size))
      clear a0 a1 a2 a3 R8 hb W7 CC
      obtain ⟨a0, a1, a2, a3⟩ := R9.out.m
      go_wp2_with fail
      refine (CM.out w8 R9.out.xm).mono ?_
      rintro e w9 ⟨rfl, hb⟩
      have R10 := hid (R9.out.below hb)
      have W9 := hid (W8.out.trans (hb.mono W8.out.size))
      clear a0 a1 a2 a3 R9 hb W8 CM
      obtain ⟨a0, a1, a2, a3⟩ := R10.out.a
      go_wp2_with fail
      refine (CP.out w9 R10.out.xa).mono ?_
      rintro e w10 ⟨P, cp, rfl, hP, hb⟩
      have HP := hid hP
      have R11 := hid (R10.out.below hb)
      have W10 := hid (W9.out.trans (hb.mono W9.out.size))
      clear a0 a1 a2 a3 R10 hb W9 CP hP
      go_wp2_with (go_at_call 47; refine (CO.out w10 R11.out.O).mono ?_; rintro e w' ⟨rfl, rfl⟩)
      go_loopw [287] (fun t wr' => ∃ i : Nat, i ≤ dp ∧ t = .int .i64 i ∧ Hid (Below w10.heap.size w10 wr')) (fun t _ => dp - (intOf t).toNat)
      case atStart => exact ⟨0, Nat.zero_le _, rfl, Below.refl _ _⟩
      case round =>
        obtain ⟨i, hi, rfl, hV⟩ := hrel
        by_cases hlt2 : i < dp
        · have hil2 : (i : Int) < (dp : Int) := by omega
          have hi0 : (0 : Int) ≤ (i : Int) := by omega
          obtain ⟨b0, o0, z, rfl, hcz, hz⟩ := (HP.out.below hV.out).at_ (k := i) (by rw [cellsL_length]; exact hlt2)
          have hzz := hz.out
          rw [cellsL_at hlt2] at hzz
          have hzb : (i : Int) * (wd : Int) ≤ z ∧ z < ((i : Int) + 1) * (wd : Int) := by
            have h1 := belowN_lt m (saltN s i) wd (by omega)
            have h2 : z = ((i * wd + belowN m (saltN s i) wd : Nat) : Int) := (Option.some.inj hzz).symm
            have h3 : ((i : Int) + 1) * (wd : Int) = (i : Int) * (wd : Int) + (wd : Int) := by rw [Int.add_mul, Int.one_mul]
            have h4 : ((i * wd : Nat) : Int) = (i : Int) * (wd : Int) := by simp
            omega
          have hib : i * wd ≤ 4 * 13 := Nat.mul_le_mul (by omega) hw2
          have hib2 : (i + 1) * wd ≤ 4 * 13 := Nat.mul_le_mul (by omega) hw2
          have e1 : ((i : Int) * (wd : Int)) = ((i * wd : Nat) : Int) := by simp
          have e2 : (((i : Int) + 1) * (wd : Int)) = (((i + 1) * wd : Nat) : Int) := by simp
          have t1 : IntKind.i64.wrap ((i : Int) * (wd : Int)) = (i : Int) * (wd : Int) := by rw [IntKind.wrap_i64]; omega
          have t2 : IntKind.i64.wrap ((i : Int) + 1) = (i : Int) + 1 := by rw [IntKind.wrap_i64]; omega
          have t3 : IntKind.i64.wrap (((i : Int) + 1) * (wd : Int)) = ((i : Int) + 1) * (wd : Int) := by rw [IntKind.wrap_i64]; omega
          have t4 : ¬ z < (i : Int) * (wd : Int) := by omega
          have t5 : ¬ ((i : Int) + 1) * (wd : Int) ≤ z := by omega
          clear hzb hzz hz e1 e2 hib hib2
          go_wp2
          exact ⟨⟨i + 1, by omega, by go_num, hV⟩, by simp [intOf]; omega⟩
        · have hil2 : ¬ (i : Int) < (dp : Int) := by omega
          obtain rfl : i = dp := by omega
          have R12 := hid (R11.out.below hV.out)
          have W12 := hid (W10.out.trans (hV.out.mono W10.out.size))
          clear R11 W10 hV HP hi hlt2
          go_wp2_with fail
          refine (CO.out _ R12.out.O).mono ?_
          rintro e w' ⟨rfl, rfl⟩
          go_wp2
          exact ⟨⟨m + 1, by omega, by go_num, by rw [hpn.out], W12⟩, by simp [intOf]; omega⟩
    · have hil : ¬ (m : Int) < 9 := by omega
      obtain rfl : m = 9 := by omega
      have hge : prodsN ks os 9 ≤ d := HD.out
      generalize prodsN ks os 9 = pr at hge ⊢
      go_wp2
      kernel_rfl
end Go.Proofs.Ytmmolicodlmlkaa.Ph
namespace Go.Proofs.Ytmmolicodlmlkaa
open Go.RowKit
open Go.Proofs.Ytmmolicodlmlkaa.Rel (Ints)
set_option linter.unusedVariables false
set_option linter.unusedSimpArgs false

set_option maxHeartbeats 1600000 in
theorem iNewCells_ex (a0 a1 a2 : Int) (w : World) (h0 : W64 a0) (h1 : W64 a1) (h2 : W64 a2) (hs : sidesB a0 a1 a2 = true) :
    Calls Try.prog 37 #[.int .i64 a0, .int .i64 a1, .int .i64 a2] w fun e w' => ∃ g, e = .returned (.tuple #[.agg #[.int .i64 a0, .int .i64 a1, .int .i64 a2, .slice (some ⟨g, 0, none⟩) (a0 * a1).toNat (a0 * a1).toNat], .bool true]) ∧ OwnE [] w' w.heap.size 2 (some ⟨g, 0, none⟩) (List.replicate (a0 * a1).toNat 0) ∧ Below w.heap.size w w' := by
  obtain ⟨e0, e1, e2⟩ := sidesB_iff hs
  clear hs
  obtain ⟨hm0, hm1⟩ := mul_sides e0 e1
  obtain ⟨n, hn⟩ := Int.eq_ofNat_of_zero_le (show 0 ≤ a0 * a1 by omega)
  have hn1 : n ≤ 384 := by omega
  have ew : IntKind.i64.wrap (a0 * a1) = (n : Int) := by rw [hn, IntKind.wrap_i64]; omega
  have HV := hid (vCells_new (c := a2) e0 e1 hn.symm)
  have hmk := run_make_row' (P := Try.prog) 22 2 (.int .i64 0) 8 Try.underlying22 (by kernel_rfl) rfl .i64 .i64 n (by omega) (by omega)
  have HN := hid hn
  have hZ : RdL (Value.int .i64) ((w.alloc (.cells #[.int .i64 0, .int .i64 0, .int .i64 0, .slice none 0 0] 37)).alloc (.cells (madeCells #[.int .i64 0] n) 2)) (some ⟨w.heap.size + 1, 0, none⟩) (List.replicate n 0) := by
    refine Blk.rd0 ?_ (t := 2)
    rw [madeCells_one, List.map_replicate]
    exact Blk.new2 _ _ _ _
  have HZ := hid hZ
  have HO : Hid (OwnE [] ((w.alloc (.cells #[.int .i64 0, .int .i64 0, .int .i64 0, .slice none 0 0] 37)).alloc (.cells (madeCells #[.int .i64 0] n) 2)) (w.heap.size + 1) 2 (some ⟨w.heap.size + 1, 0, none⟩) (List.replicate n 0)) := by
    refine ⟨_, rfl, by omega, ?_⟩
    rw [madeCells_one, List.map_replicate, List.append_nil]
    exact Blk.new2 _ _ _ _
  have R0 := hid ((Blk.new w 37 [.int .i64 0, .int .i64 0, .int .i64 0, .slice none 0 0]).alloc (.cells (madeCells #[.int .i64 0] n) 2))
  have hw0 : ∀ y ∈ List.replicate n (0 : Int), W64 y := fun y hy => by
    obtain ⟨_, rfl⟩ := List.mem_replicate.1 hy
    exact w64_of_bounds (by omega)
  have HW := hid hw0
  clear hn hm0 hm1 hZ hw0
  rw [HN.out, Int.toNat_natCast]
  go_enter Try.func37, Try.ntmps37
  go_wp2_with ((go_at_call 97; refine (within_any _ _ _ _).mono ?_; rintro e w' ⟨rfl, rfl⟩))
  refine (ifCells_yes a0 a1 a2 _ n n (List.replicate n 0) _ h0 h1 h2 (by simp) HZ.out (by omega) HW.out (HV.out.trans e2)).mono ?_
  rintro e w1 ⟨rfl, hb⟩
  obtain ⟨d0, d1, d2, d3⟩ := (R0.out.below hb).cells4
  have f0 := (R0.out.below hb).frozen 0
  have f1 := (R0.out.below hb).frozen 1
  have f2 := (R0.out.below hb).frozen 2
  have f3 := (R0.out.below hb).frozen 3
  have O1 := hid (HO.out.below hb)
  have S1 := below_call (below_a2 _ _ _) hb
  clear hb hmk ew
  go_wp2
  refine bodyPost_ret (v := .tuple #[.agg #[.int .i64 a0, .int .i64 a1, .int .i64 a2, .slice (some ⟨w.heap.size + 1, 0, none⟩) n n], .bool true]) (by simp [results, Try.results37, go_sem, d0, d1, d2, d3]) rfl ⟨w.heap.size + 1, rfl, ?_, ?_⟩
  · exact ((((O1.out.setFar (by simp) _).setFar (by simp) _).setFar (by simp) _).setFar (by simp) _).mono (by omega)
  · exact (((S1.out.setCell (by simp) _).setCell (by simp) _).setCell (by simp) _).setCell (by simp) _
set_option maxRecDepth 100000 in
theorem run_append_intsL {P : Program} (w : World) (base : Nat) (t ty e : TypeId) (i : TypeInfo) (ht : P.underlying t = some (.slice e)) (hi : P.info? e = some i) (hz : i.zero = some (.int .i64 0)) (hsize : i.size = 1) (hby : i.bytes = 8)
    (v : Value) (n : Nat) (xs : List Value) (hown : w.ownsRow base e 1 v n xs) (hv : IntsV w v) (a : Addr) (c : Nat) (hs : List Int) (hnews : ∀ j u, (hs.map (Value.int .i64))[j]? = some u → w.cell? (a.add j) = some u) (h63 : n + hs.length ≤ maxLen) (hbytes : (n + hs.length) * 8 ≤ 140737488355328) (hbase : base ≤ w.heap.size) :
    ∃ v' w', (Builtin.append_ #[t, t] ty #[v, .slice (some a) hs.length c]).run P w = .ok v' w' ∧ w'.ownsRow base e 1 v' (n + hs.length) (xs ++ hs.map (Value.int .i64)) ∧ w.grownBy w' v.ownBlock ∧ IntsV w' v' := by
  obtain ⟨v', w', hr, h2, h3, h4⟩ := run_append_own (P := P) w base t ty e i (.int .i64 0) 1 8 ht hi hz hsize hby rfl (by decide) v n xs hown a hs.length c (hs.map (Value.int .i64)) (by simp [hsize]) hnews (by intro u hu; obtain ⟨y, _, rfl⟩ := List.mem_map.1 hu; rfl) h63 hbytes hbase
  refine ⟨v', w', hr, h2, h3, fun g' hg' => ?_⟩
  have hz1 : (Value.int IntKind.i64 0).cells = #[Value.int .i64 0] := rfl
  have hx0 : ∀ x ∈ xs, ∃ k, x = Value.int .i64 k := by
    intro x hx
    rcases hown.2 with ⟨rfl, rfl⟩ | ⟨g, cap, cur, rfl, hbg, hg, hnc, hcm, hcs, htake⟩
    · have : xs = [] := List.eq_nil_of_length_eq_zero (by simpa using hown.1)
      subst this
      simp at hx
    · obtain ⟨c0, e0, q1, q2⟩ := hv g rfl
      rw [hg] at q1
      injection q1 with q1
      injection q1 with q1
      subst q1
      exact q2 x (by rw [← htake] at hx; simpa using List.mem_of_mem_take hx)
  have grown : ∀ k, ∀ x ∈ xs.toArray ++ (hs.map (Value.int .i64)).toArray ++ Builtin.zeroCells #[Value.int .i64 0] k, ∃ i, x = .int .i64 i := by
    intro k x hx
    rcases Array.mem_append.1 hx with hx | hx
    · rcases Array.mem_append.1 hx with hx | hx
      · exact hx0 x (by simpa using hx)
      · simp at hx; obtain ⟨y, _, rfl⟩ := hx; exact ⟨_, rfl⟩
    · exact zero_ints x hx
  have hm : (n + hs.length : Nat) ≤ 9223372036854775807 := by simp only [maxLen] at h63; omega
  rcases hown.2 with ⟨rfl, rfl⟩ | ⟨g, cap, cur, rfl, hbg, hg, hnc, hcm, hcs, htake⟩
  · have hx : xs = [] := List.eq_nil_of_length_eq_zero (by simpa using hown.1)
    subst hx
    by_cases hz0 : hs.length = 0
    · have := h4.2 ⟨rfl, hz0⟩
      subst this
      simp [Value.ownBlock] at hg'
    have hr2 := run_append_nil (P := P) w t ty e i (.int .i64 0) ht hi hz a hs.length c (hs.map (Value.int .i64)) (by rw [hsize]; simp) hnews (by omega) (by omega) (by rw [hby]; omega)
    rw [hr] at hr2
    injection hr2 with e1 e2
    subst e1; subst e2
    obtain rfl : w.heap.size = g' := by injection hg'
    exact ⟨_, e, heap_alloc_new w.drew _, by
      have := grown (grownCap w hs.length 0 e - hs.length)
      rw [hz1]
      simpa using this⟩
  · by_cases hroom : n + hs.length ≤ cap
    · have hr2 := run_append_room (P := P) w t ty e i ht hi g n cap cur hg a hs.length c (hs.map (Value.int .i64)) (by rw [hsize]; simp) hnews (by intro u hu; obtain ⟨y, _, rfl⟩ := List.mem_map.1 hu; rfl) hroom (by rw [hsize]; simp; omega)
      rw [hr] at hr2
      injection hr2 with e1 e2
      subst e1; subst e2
      obtain rfl : g = g' := by injection hg'
      refine ⟨_, e, setRow_heap w g cur _ e _ hg, fun x hx => ?_⟩
      obtain ⟨c0, e0, q1, q2⟩ := hv g rfl
      rw [hg] at q1
      injection q1 with q1
      injection q1 with q1
      subst q1
      simp only [List.append_assoc, List.mem_toArray, List.mem_append, List.mem_cons, List.not_mem_nil, or_false] at hx
      rcases hx with hx | hx | hx
      · exact q2 x (by simpa using List.mem_of_mem_take hx)
      · obtain ⟨y, _, rfl⟩ := List.mem_map.1 hx
        exact ⟨_, rfl⟩
      · exact q2 x (by simpa using List.mem_of_mem_drop hx)
    · have holds : ∀ j u, xs[j]? = some u → w.cell? ((⟨g, 0, none⟩ : Addr).add j) = some u := hown.cells (g := g) rfl
      have hr2 := run_append_grow (P := P) w t ty e i (.int .i64 0) ht hi hz ⟨g, 0, none⟩ n cap xs (by rw [hsize]; exact hown.1) holds a hs.length c (hs.map (Value.int .i64)) (by rw [hsize]; simp) hnews (by omega) (by omega) (growslice_fits (by omega) (by rw [hby]; exact hbytes))
      rw [hr] at hr2
      injection hr2 with e1 e2
      subst e1; subst e2
      obtain rfl : w.heap.size = g' := by injection hg'
      exact ⟨_, e, heap_alloc_new w.drew _, grown _⟩

theorem wpList_append_intsL {P : Program} {w : World} {ops : Array Oper} {rest : List Oper} {o : Oper} {a : Act} {Q : Exit → Act → World → Prop} (hgd : o.guard = none) (s x : Operand) (t : TypeId)
    (ho : o.op = .call { callee := .builtin .append, args := #[s, x], argTypes := #[t, t] }) (base : Nat) (e : TypeId) (i : TypeInfo) (ht : P.underlying t = some (.slice e)) (hi : P.info? e = some i) (hz : i.zero = some (.int .i64 0)) (hsize : i.size = 1) (hby : i.bytes = 8)
    (v : Value) (n : Nat) (xs : List Value) (hs' : a.eval s = v) (hown : w.ownsRow base e 1 v n xs) (hv : IntsV w v) (ad : Addr) (c : Nat) (hs : List Int) (hx : a.eval x = .slice (some ad) hs.length c) (hnews : ∀ j u, (hs.map (Value.int .i64))[j]? = some u → w.cell? (ad.add j) = some u) (h63 : n + hs.length ≤ maxLen) (hbytes : (n + hs.length) * 8 ≤ 140737488355328) (hbase : base ≤ w.heap.size)
    (hk : ∀ v' w', w'.ownsRow base e 1 v' (n + hs.length) (xs ++ hs.map (Value.int .i64)) → w.grownBy w' v.ownBlock → IntsV w' v' → wpList P ops Q rest (a.put o.dst v') w') : wpList P ops Q (o :: rest) a w := by
  refine wpList_plain hgd fun _ hK => ?_
  obtain ⟨v', w', hr, h2, h3, h4⟩ := run_append_intsL (P := P) w base t o.type e i ht hi hz hsize hby v n xs hown hv ad c hs hnews h63 hbytes hbase
  unfold Oper.wp execOp
  simp only [ho, resolve, invoke, builtin, Sem.run_bind, Sem.run_pure, Result.andThen_ok, List.map_toArray, List.map_cons, List.map_nil, hs', hx, hr]
  exact hK _ _ (hk v' w' h2 h3 h4)
set_option maxRecDepth 100000 in
set_option maxHeartbeats 800000 in
theorem cloneI_ints (A : Option Addr) (c : Nat) (x : List Int) (w : World) (hx : RdL (Value.int .i64) w A x) (hn : x.length ≤ 1048576) :
    Calls Try.prog 118 #[.slice A x.length c] w (RetLN (Value.int .i64) 2 w x) := by
  obtain ⟨i0, hi0, hz0, hz1, hz2⟩ := info_parts Try.infoI
  have q22 : ∀ (w : World) (a : Option Addr) (n c n' c' : Nat), (binOp .eql 22 (.slice a n c) (.slice none n' c')).run Try.prog w = .ok (.bool a.isNone) w := fun w a n c n' c' => Lib.run_eql_slice_nil w _ _ a n c n' c' Try.underlying22
  cases A with
  | none =>
    obtain rfl := rd_none hx
    go_enter Try.func118, Try.ntmps118
    go_wp2
    go_ret
    exact ⟨none, 0, rfl, OwnS.nil, by simp, Below.refl _ _⟩
  | some ad =>
    have HX := hid hx
    clear hx
    go_enter Try.func118, Try.ntmps118
    go_wp2_with (at_builtin; refine wpList_append_intsL rfl _ _ 22 rfl w.heap.size 2 i0 Try.underlying22 hi0 hz0 hz1 hz2 _ 0 [] rfl (World.ownsRow_made w #[] 0 (Nat.le_refl _) (Nat.zero_le _) rfl) IntsV.made ad c x rfl (rd_news (HX.out.below (below_a1 _ _))) ?c3 ?c4 ?c5 ?_)
    case c3 => simp only [maxLen]; omega
    case c4 => omega
    case c5 => simp
    intro v' w1 hown' hgrow hI'
    have O1 := hid hown'
    have I1 := hid hI'
    have W1 : Hid (Below w.heap.size w w1) := ((Below.refl _ w).alloc (Nat.le_refl _) _).grown hgrow (by simp) (by intro k hk; simp [Value.ownBlock] at hk; omega)
    clear hown' hgrow hI'
    go_wp2
    go_ret
    obtain ⟨A', c', hv, ho, hnw⟩ := ownS_of_rowN (f := (Value.int .i64)) (xs := x) (n := 0 + x.length) (by simpa using O1.out) I1.out (by simp)
    exact ⟨A', c', congrArg Ending.returned hv, ho, hnw, W1.out⟩
end Go.Proofs.Ytmmolicodlmlkaa
namespace Go.Proofs.Ytmmolicodlmlkaa.Ph
open Go.Conc Go.ConcN Go.RowKit
open Go.Proofs.Ytmmolicodlmlkaa.Rel
set_option linter.unusedVariables false
set_option linter.unusedSimpArgs false

/-- However long the list is. -/
theorem AreKeys_all (A : Option Addr) (c : Nat) (xs : List Int) (w : World) (hx : RdL (Value.int .i64) w A xs) :
    Calls Try.prog 65 #[.slice A xs.length c] w fun e w' => e = .returned (.bool (keysQ xs)) ∧ w = w' := by
  by_cases h0 : xs.length ≤ 1048576
  · exact AreKeys_q A c xs w hx h0
  · have h : ¬ (xs.length : Int) ≤ 256 := by omega
    clear hx h0
    go_enter Try.func65, Try.ntmps65
    go_wp2
    go_ret
    exact ⟨by simp [keysQ]; omega, rfl⟩
theorem notKeys_any (R : Option Addr) (cc : Nat) (x : List Int) (w : World) (hx : RdL (Value.int .i64) w R x) :
    Calls Try.prog 89 #[.slice R x.length cc] w fun e w' => e = .returned (.bool (!keysQ x)) ∧ w = w' := by
  have HX := hid hx
  go_enter Try.func89, Try.ntmps89
  go_wp2_with (go_at_call 65; refine (AreKeys_all R cc x _ HX.out).mono ?_; rintro e w' ⟨rfl, rfl⟩)
  go_ret
  exact ⟨rfl, rfl⟩
theorem any_take2 {p : List Int → Bool} {l : List (List Int)} {k : Nat} {x : List Int} (h : Hid ((l.take k).any p = false)) (hx : Hid (l[k]? = some x)) (hp : p x = false) : (l.take (k + 1)).any p = false := by
  have := h.out
  rw [List.take_add_one, hx.out, List.any_append, this]
  simp [hp]
theorem any_yes2 {p : List Int → Bool} {l : List (List Int)} {k : Nat} {x : List Int} (hx : Hid (l[k]? = some x)) (hp : p x = true) : l.any p = true := by
  rw [List.any_eq_true]
  exact ⟨x, List.mem_of_getElem? hx.out, hp⟩
set_option maxHeartbeats 1600000 in
theorem IndexFuncL_any (A : Option Addr) (c : Nat) (xss : List (List Int)) (w : World) (hx : RdLL w A xss) (hn : xss.length ≤ 1048576) :
    Calls Try.prog 129 #[.slice A xss.length c, .func (.func 89) #[] #[]] w fun e w' => (∃ i : Int, e = .returned (.int .i64 i) ∧ decide (i ≥ 0) = xss.any fun x => !keysQ x) ∧ w = w' := by
  have HX := hid hx
  clear hx
  go_enter Try.func129, Try.ntmps129
  go_wp2
  go_loop [8] (fun i => ∃ k : Nat, k ≤ xss.length ∧ i = .int .i64 k ∧ Hid ((xss.take k).any (fun x => !keysQ x) = false)) (fun i => xss.length - (intOf i).toNat)
  case atStart => exact ⟨0, Nat.zero_le _, rfl, by show (xss.take 0).any _ = false; simp⟩
  case round =>
    obtain ⟨k, hk, rfl, hh⟩ := hrel
    by_cases hlt : k < xss.length
    · have hi : (k : Int) < (xss.length : Int) := by omega
      obtain ⟨C, o1, R, cc, rfl, hc, hrd⟩ := HX.out k hlt
      have hxk : Hid (xss[k]? = some xss[k]) := by show _ = _; rw [List.getElem?_eq_getElem hlt]
      generalize xss[k] = L at hc hrd hxk
      go_wp2_with fail
      refine (notKeys_any R cc L _ hrd).mono ?_
      rintro e w' ⟨rfl, rfl⟩
      cases hp : (!keysQ L) with
      | true =>
        have he := hid (any_yes2 (p := fun x => !keysQ x) hxk hp)
        clear hp hrd
        go_wp2
        go_ret
        exact ⟨⟨k, rfl, by rw [he.out, decide_eq_true (by omega)]⟩, rfl⟩
      | false =>
        have he := hid (any_take2 (p := fun x => !keysQ x) hh hxk hp)
        clear hp hrd
        go_wp2
        exact ⟨⟨k + 1, by omega, by go_num, he⟩, by simp [intOf]; omega⟩
    · have hi : ¬ (k : Int) < (xss.length : Int) := by omega
      go_wp2
      go_ret
      have he := hh.out
      rw [List.take_of_length_le (by omega)] at he
      exact ⟨⟨-1, rfl, by rw [he]; decide⟩, rfl⟩
theorem ContainsFuncL_any (A : Option Addr) (c : Nat) (xss : List (List Int)) (w : World) (hx : RdLL w A xss) (hn : xss.length ≤ 1048576) :
    Calls Try.prog 88 #[.slice A xss.length c, .func (.func 89) #[] #[]] w fun e w' => e = .returned (.bool (xss.any fun x => !keysQ x)) ∧ w = w' := by
  have HX := hid hx
  clear hx
  go_enter Try.func88, Try.ntmps88
  go_wp2_with fail
  refine (IndexFuncL_any A c xss _ HX.out hn).mono ?_
  rintro e w' ⟨⟨i, rfl, hi⟩, rfl⟩
  generalize hg : (xss.any fun x => !keysQ x) = g at hi ⊢
  go_wp2
  go_ret
  exact ⟨ret_bool hg.symm, rfl⟩
noncomputable def csCode : Code := match Try.f28.body with | some c => c | _ => .skip
/-- The slots of impl.CellsShared; T: what is of no matter. -/
abbrev arrCS (T : Nat → Value) (kw : Int) (bl br bo bm : Nat) : Array Value := #[T 0, T 1, T 2, T 3, .int .i64 kw, T 5, T 6, T 7, ptrB bl, T 9, ptrB br, .bool false, ptrB bo, T 13, ptrB bm, T 15, T 16, T 17, T 18, T 19, T 20, T 21, T 22, T 23, T 24, T 25, T 26, T 27, T 28, T 29, T 30, T 31, T 32, T 33, T 34, T 35, T 36, T 37, T 38, T 39, T 40, T 41, T 42, T 43, T 44, T 45, T 46, T 47, T 48, T 49, T 50, T 51, T 52, T 53, T 54, T 55, T 56, T 57, T 58, T 59, T 60, T 61, T 62, T 63, T 64, T 65, T 66, T 67, T 68, T 69, T 70, T 71, T 72, T 73, T 74, T 75, T 76, T 77, T 78, T 79, T 80]
abbrev actCS (a0 a1 a2 : Int) (A : Option Addr) (n c : Nat) (kw : Int) : Act := ⟨#[.int .i64 a0, .int .i64 a1, .int .i64 a2, .slice A n c, .int .i64 kw, undef, undef, undef, undef, undef, undef, undef, undef, undef, undef, undef, undef, undef, undef, undef, undef, undef, undef, undef, undef, undef, undef, undef, undef, undef, undef, undef, undef, undef, undef, undef, undef, undef, undef, undef, undef, undef, undef, undef, undef, undef, undef, undef, undef, undef, undef, undef, undef, undef, undef, undef, undef, undef, undef, undef, undef, undef, undef, undef, undef, undef, undef, undef, undef, undef, undef, undef, undef, undef, undef, undef, undef, undef, undef, undef, undef], []⟩
/-- What stands at the call of sharedWork. -/
def PreCS (a0 a1 a2 : Int) (A : Option Addr) (c : Nat) (xss : List (List Int)) (kw : Int) (n B : Nat) (a' : Act) (w' : World) : Prop :=
  ∃ bl br bo bm C g, a'.defers = [] ∧ a'.tmps = arrCS (fun i => a'.tmps.getD i undef) kw bl br bo bm ∧ B ≤ bl ∧ B ≤ br ∧ B ≤ bo ∧ B ≤ bm ∧ B ≤ C ∧ B ≤ g ∧ bl ≠ C ∧ br ≠ C ∧ bo ≠ C ∧ bm ≠ C ∧ g ≠ C ∧ bl ≠ g ∧ br ≠ g ∧ bo ≠ g ∧ bm ≠ g ∧ bo ≠ br ∧ bm ≠ br ∧ bl ≠ br ∧
    w'.heap[bl]? = some (.cells #[.slice A xss.length c] 29 (0, 0)) ∧ w'.heap[br]? = some (.cells #[.int .i64 0, .int .i64 0, .int .i64 0, .slice none 0 0] 37 (0, 0)) ∧
    w'.heap[bo]? = some (.cells #[.int .i64 a0, .int .i64 a1, .int .i64 a2, .slice (some ⟨g, 0, none⟩) n n] 37 (0, 0)) ∧ w'.heap[bm]? = some (.cells #[.slice (some ⟨C, 0, none⟩) xss.length xss.length] 78 (0, 0)) ∧
    (∃ cs, w'.heap[C]? = some (.cells cs 37 (0, 0)) ∧ cs.size = 4 * xss.length) ∧ Blk w' g 2 ((List.replicate n (0 : Int)).map (Value.int .i64))
theorem infoCs : (Try.prog.info? 37).map (fun i => (i.zero, i.size, i.bytes)) = some (some (.agg #[.int .i64 0, .int .i64 0, .int .i64 0, .slice none 0 0]), 4, 48) := by kernel_rfl
set_option maxRecDepth 100000 in
set_option maxHeartbeats 4000000 in
theorem cs_reach (a0 a1 a2 : Int) (A : Option Addr) (c : Nat) (xss : List (List Int)) (kw : Int) (n : Nat) (w : World) (h0 : W64 a0) (h1 : W64 a1) (h2 : W64 a2) (hx : RdLL w A xss) (hg : gateCS a0 a1 a2 xss kw = true) (hn : (n : Int) = a0 * a1) :
    Rel.Reach Try.prog 4 csCode (PreCS a0 a1 a2 A c xss kw n w.heap.size) (actCS a0 a1 a2 A xss.length c kw) w := by
  have HX := hid hx
  simp only [gateCS, Bool.and_eq_true, decide_eq_true_eq] at hg
  obtain ⟨⟨⟨⟨g1, g2⟩, g3⟩, g4⟩, g5⟩ := hg
  have l1 : ¬ (xss.length : Int) < 1 := by omega
  have l2 : ¬ (xss.length : Int) > 16 := by omega
  have hnq : (xss.any fun x => !keysQ x) = false := by
    rw [List.any_eq_false]
    intro x hx
    have := List.all_eq_true.1 g5 x hx
    simp [this]
  obtain ⟨i0, hi0, hz0, hz1, hz2⟩ := info_parts infoCs
  have hmk : ∀ w : World, (Instr.makeSlice 78 (.int .i64 (xss.length : Int)) (.int .i64 (xss.length : Int))).run Try.prog w = .ok (.slice (some ⟨w.heap.size, 0, none⟩) xss.length xss.length) (w.alloc (.cells (madeCells #[.int .i64 0, .int .i64 0, .int .i64 0, .slice none 0 0] (xss.length * 4)) 37)) := fun w => by
    have h := run_make (P := Try.prog) w 78 37 i0 (.agg #[.int .i64 0, .int .i64 0, .int .i64 0, .slice none 0 0]) Try.underlying78 hi0 hz0 .i64 .i64 (xss.length : Int) (xss.length : Int) (by omega) (by omega) (by rw [hz2]; omega) (by omega)
    rw [hz1] at h
    simp only [Int.toNat_natCast] at h
    exact h
  clear hx g2 g3 g5
  simp only [csCode, Try.f28]
  refine reach_seq ?_
  go_wp2
  refine reach_seq ?_
  have hNC := iNewCells_ex a0 a1 a2 ((w.alloc (.cells #[.slice A xss.length c] 29)).alloc (.cells #[.int .i64 0, .int .i64 0, .int .i64 0, .slice none 0 0] 37)) h0 h1 h2 g1
  rw [← hn, Int.toNat_natCast] at hNC
  have HNC := hid hNC
  clear hNC hn
  go_wp2_with fail
  refine HNC.out.mono ?_
  rintro e w1 ⟨g, rfl, ho, hb⟩
  have hsz : w.heap.size + 2 ≤ w1.heap.size := by have := hb.size; simp at this; omega
  obtain ⟨g', eg, hgB, hgb⟩ := ho
  injection eg with eg
  injection eg with eg
  subst eg
  have hgB' : w.heap.size + 2 ≤ g := by simp at hgB; omega
  have hgl := hgb.lt
  have hB1 : Below w.heap.size w w1 := (below_a2 w (.cells #[.slice A xss.length c] 29) (.cells #[.int .i64 0, .int .i64 0, .int .i64 0, .slice none 0 0] 37)).trans (hb.mono (by simp only [World.size_alloc]; omega))
  have q1 : w1.heap[w.heap.size]? = some (.cells #[.slice A xss.length c] 29 (0, 0)) := by
    rw [hb.block _ (by simp; omega), heap_alloc_old _ _ (by simp), heap_alloc_new]
  have q2 : w1.heap[w.heap.size + 1]? = some (.cells #[.int .i64 0, .int .i64 0, .int .i64 0, .slice none 0 0] 37 (0, 0)) := by
    rw [hb.block _ (by simp)]
    have := heap_alloc_new (w.alloc (.cells #[.slice A xss.length c] 29)) (.cells #[.int .i64 0, .int .i64 0, .int .i64 0, .slice none 0 0] 37)
    simpa only [World.size_alloc] using this
  have HX1 := hid (HX.out.below ((hB1.alloc (by omega) (.cells #[.int .i64 a0, .int .i64 a1, .int .i64 a2, .slice (some ⟨g, 0, none⟩) n n] 37))))
  have hcl : (w1.alloc (.cells #[.int .i64 a0, .int .i64 a1, .int .i64 a2, .slice (some ⟨g, 0, none⟩) n n] 37)).cell? ⟨w.heap.size, 0, none⟩ = some (.slice A xss.length c) := by
    refine cell0 (t := 29) (fr := (0, 0)) ?_
    rw [heap_alloc_old _ _ (by omega)]; exact q1
  have Q1 := hid q1
  have Q2 := hid q2
  have HGB := hid hgb
  have HGL := hid hgl
  have hq1 : w.heap.size < w1.heap.size := by omega
  clear hb q1 q2 hgb hgl hgB
  go_wp2
  refine reach_seq ?_
  go_wp2_with (first | (go_at_call 80; refine (areWorkers_any kw _).mono ?_; rw [g4]; rintro e w' ⟨rfl, rfl⟩) | (go_at_call 88; refine (ContainsFuncL_any A c xss _ HX1.out (by omega)).mono ?_; rw [hnq]; rintro e w' ⟨rfl, rfl⟩))
  clear hnq l1 l2 g4
  refine reach_seq ?_
  go_wp2_with (simp only [hmk])
  clear hmk
  refine reach_here ?_
  generalize ho1 : Obj.cells #[Value.int .i64 a0, Value.int .i64 a1, Value.int .i64 a2, Value.slice (some ⟨g, 0, none⟩) n n] 37 = o1
  generalize ho2 : Obj.cells (madeCells #[.int .i64 0, .int .i64 0, .int .i64 0, .slice none 0 0] (xss.length * 4)) 37 = o2
  generalize ho3 : Obj.cells #[Value.slice (some ⟨w1.heap.size + 1, 0, none⟩) xss.length xss.length] 78 = o3
  have old : ∀ b, b < w1.heap.size → (((w1.alloc o1).alloc o2).alloc o3).heap[b]? = w1.heap[b]? := fun b hb => by
    rw [heap_alloc_old _ _ (by simp only [World.size_alloc]; omega), heap_alloc_old _ _ (by simp only [World.size_alloc]; omega), heap_alloc_old _ _ (by omega)]
  have e1 : (((w1.alloc o1).alloc o2).alloc o3).heap[w1.heap.size]? = some o1 := by
    rw [heap_alloc_old _ _ (by simp only [World.size_alloc]; omega), heap_alloc_old _ _ (by simp only [World.size_alloc]; omega), heap_alloc_new]
  have e2 : (((w1.alloc o1).alloc o2).alloc o3).heap[w1.heap.size + 1]? = some o2 := by
    rw [heap_alloc_old _ _ (by simp only [World.size_alloc]; omega)]
    have := heap_alloc_new (w1.alloc o1) o2
    simpa only [World.size_alloc] using this
  have e3 : (((w1.alloc o1).alloc o2).alloc o3).heap[w1.heap.size + 1 + 1]? = some o3 := by
    have := heap_alloc_new ((w1.alloc o1).alloc o2) o3
    simpa only [World.size_alloc] using this
  have hgl := HGL.out
  refine ⟨w.heap.size, w.heap.size + 1, w1.heap.size, w1.heap.size + 1 + 1, w1.heap.size + 1, g, rfl, by kernel_rfl, by omega, by omega, by omega, by omega, by omega, by omega, by omega, by omega, by omega, by omega, by omega, by omega, by omega, by omega, by omega, by omega, by omega, by omega, ?_, ?_, ?_, ?_, ?_, ?_⟩
  · rw [old _ (by omega)]; exact Q1.out
  · rw [old _ (by omega)]; exact Q2.out
  · rw [e1, ← ho1]
  · rw [e3, ← ho3]
  · refine ⟨_, by rw [e2, ← ho2], ?_⟩
    rw [size_madeCells, Nat.mul_comm]
  · have := HGB.out
    rw [List.append_nil] at this
    exact (old g hgl).trans this
end Go.Proofs.Ytmmolicodlmlkaa.Ph
namespace Go.Proofs.Ytmmolicodlmlkaa.Ph
open Go.Conc Go.ConcN Go.RowKit
open Go.Proofs.Ytmmolicodlmlkaa.Rel
set_option linter.unusedVariables false
set_option linter.unusedSimpArgs false

abbrev noCs : Value := .tuple #[.agg #[.int .i64 0, .int .i64 0, .int .i64 0, .slice none 0 0], .bool false]
set_option maxRecDepth 100000 in
set_option maxHeartbeats 8000000 in
theorem cs_rets (a0 a1 a2 : Int) (A : Option Addr) (c : Nat) (xss : List (List Int)) (kw : Int) (w : World) (h0 : W64 a0) (h1 : W64 a1) (h2 : W64 a2) (hx : RdLL w A xss) (hg : gateCS a0 a1 a2 xss kw = false) :
    Rets Try.prog 28 3 csCode (fun u w' => u = noCs ∧ Below w.heap.size w w') (actCS a0 a1 a2 A xss.length c kw) w := by
  have HX := hid hx
  clear hx
  simp only [Rets, csCode, Try.f28, cut]
  have R0 := hid (Blk.new2 w (.cells #[.slice A xss.length c] 29) 37 [.int .i64 0, .int .i64 0, .int .i64 0, .slice none 0 0])
  have L0 : Hid (((w.alloc (.cells #[.slice A xss.length c] 29)).alloc (.cells #[.int .i64 0, .int .i64 0, .int .i64 0, .slice none 0 0] 37)).heap[w.heap.size]? = some (.cells #[.slice A xss.length c] 29 (0, 0))) := by
    show _ = _
    rw [heap_alloc_old _ _ (by simp), heap_alloc_new]
  cases g1 : sidesB a0 a1 a2 with
  | false =>
    clear hg
    have HNC := hid (iNewCells_any a0 a1 a2 ((w.alloc (.cells #[.slice A xss.length c] 29)).alloc (.cells #[.int .i64 0, .int .i64 0, .int .i64 0, .slice none 0 0] 37)) h0 h1 h2)
    rw [pNewCells_no g1] at HNC
    go_wp2_with fail
    refine HNC.out.mono ?_
    rintro e w1 ⟨A1, c1, rfl, ho, hln, hb⟩
    simp only [List.length_nil]
    have hsz := hb.size
    simp only [World.size_alloc] at hsz
    have R1 := hid ((R0.out.below hb).alloc (.cells #[.int .i64 0, .int .i64 0, .int .i64 0, .slice A1 0 c1] 37))
    have S1 : Hid (Below w.heap.size w (w1.alloc (.cells #[.int .i64 0, .int .i64 0, .int .i64 0, .slice A1 0 c1] 37))) := ((below_a2 w _ _).trans (hb.mono (by simp only [World.size_alloc]; omega))).alloc (by omega) _
    obtain ⟨d0, d1, d2, d3⟩ := R1.out.cells4
    have f0 := R1.out.frozen 0
    have f1 := R1.out.frozen 1
    have f2 := R1.out.frozen 2
    have f3 := R1.out.frozen 3
    clear ho hb R0 L0 HNC
    go_wp2
    refine ⟨noCs, by simp [results, Try.results28, go_sem, d0, d1, d2, d3], rfl, ?_⟩
    exact (((S1.out.setCell (by simp) _).setCell (by simp) _).setCell (by simp) _).setCell (by simp) _
  | true =>
  have hNC := iNewCells_ex a0 a1 a2 ((w.alloc (.cells #[.slice A xss.length c] 29)).alloc (.cells #[.int .i64 0, .int .i64 0, .int .i64 0, .slice none 0 0] 37)) h0 h1 h2 g1
  generalize (a0 * a1).toNat = n at hNC
  have HNC := hid hNC
  clear hNC
  go_wp2_with fail
  refine HNC.out.mono ?_
  rintro e w1 ⟨g, rfl, ho, hb⟩
  have hsz := hb.size
  simp only [World.size_alloc] at hsz
  have R1 := hid ((R0.out.below hb).alloc (.cells #[.int .i64 a0, .int .i64 a1, .int .i64 a2, .slice (some ⟨g, 0, none⟩) n n] 37))
  have S1 : Hid (Below w.heap.size w (w1.alloc (.cells #[.int .i64 a0, .int .i64 a1, .int .i64 a2, .slice (some ⟨g, 0, none⟩) n n] 37))) := ((below_a2 w _ _).trans (hb.mono (by simp only [World.size_alloc]; omega))).alloc (by omega) _
  have HX1 := hid (HX.out.below S1.out)
  have hq1 : w.heap.size < w1.heap.size := by omega
  have hcl : (w1.alloc (.cells #[.int .i64 a0, .int .i64 a1, .int .i64 a2, .slice (some ⟨g, 0, none⟩) n n] 37)).cell? ⟨w.heap.size, 0, none⟩ = some (.slice A xss.length c) := by
    refine cell0 (t := 29) (fr := (0, 0)) ?_
    rw [heap_alloc_old _ _ (by omega), hb.block _ (by simp only [World.size_alloc]; omega)]; exact L0.out
  obtain ⟨d0, d1, d2, d3⟩ := R1.out.cells4
  have f0 := R1.out.frozen 0
  have f1 := R1.out.frozen 1
  have f2 := R1.out.frozen 2
  have f3 := R1.out.frozen 3
  clear ho hb R0 L0 HNC
  by_cases g2 : (xss.length : Int) < 1
  · clear hg
    go_wp2
    refine ⟨noCs, by simp [results, Try.results28, go_sem, d0, d1, d2, d3], rfl, ?_⟩
    exact (((S1.out.setCell (by simp) _).setCell (by simp) _).setCell (by simp) _).setCell (by simp) _
  by_cases g3 : (xss.length : Int) > 16
  · clear hg
    go_wp2
    refine ⟨noCs, by simp [results, Try.results28, go_sem, d0, d1, d2, d3], rfl, ?_⟩
    exact (((S1.out.setCell (by simp) _).setCell (by simp) _).setCell (by simp) _).setCell (by simp) _
  cases g4 : Go.Proofs.Ytmmolicodlmlkaa.inB kw 1 8 with
  | false =>
    clear hg
    go_wp2_with (go_at_call 80; refine (areWorkers_any kw _).mono ?_; rw [g4]; rintro e w' ⟨rfl, rfl⟩)
    refine ⟨noCs, by simp [results, Try.results28, go_sem, d0, d1, d2, d3], rfl, ?_⟩
    exact (((S1.out.setCell (by simp) _).setCell (by simp) _).setCell (by simp) _).setCell (by simp) _
  | true =>
  have hnq : (xss.any fun x => !keysQ x) = true := by
    have : xss.all keysQ = false := by
      cases h : xss.all keysQ with
      | false => rfl
      | true =>
        simp only [gateCS, g1, g4, h, Bool.true_and, Bool.and_true] at hg
        rw [decide_eq_true (show 1 ≤ xss.length by omega), decide_eq_true (show xss.length ≤ 16 by omega)] at hg
        cases hg
    rw [List.all_eq_false] at this
    rw [List.any_eq_true]
    obtain ⟨x, hx, hq⟩ := this
    exact ⟨x, hx, by simpa using hq⟩
  clear hg
  go_wp2_with (first | (go_at_call 80; refine (areWorkers_any kw _).mono ?_; rw [g4]; rintro e w' ⟨rfl, rfl⟩) | (go_at_call 88; refine (ContainsFuncL_any A c xss _ HX1.out (by omega)).mono ?_; rw [hnq]; rintro e w' ⟨rfl, rfl⟩))
  refine ⟨noCs, by simp [results, Try.results28, go_sem, d0, d1, d2, d3], rfl, ?_⟩
  exact (((S1.out.setCell (by simp) _).setCell (by simp) _).setCell (by simp) _).setCell (by simp) _
end Go.Proofs.Ytmmolicodlmlkaa.Ph
namespace Go.Proofs.Ytmmolicodlmlkaa
open Go.RowKit
open Go.Proofs.Ytmmolicodlmlkaa.Rel (Ints cut NoExit ops_upto)
open Go.Conc (base enter_at)
set_option linter.unusedVariables false
set_option linter.unusedSimpArgs false

/-- The lone walk comes to an operation of a region. -/
def ReachO (P : Program) (c : Code) (ops : Array Oper) (rest : List Nat) (Pre : Act → World → Prop) (a : Act) (w : World) : Prop :=
  ∀ (b : Frame) (cs : List Frame), ∃ a' w', Pre a' w' ∧ Steps P (lone (b.at a [.code c]) cs w) (lone (b.at a' [.inRegion ops rest]) cs w')
theorem reachO_seq {P : Program} {x y : Code} {ops : Array Oper} {rest : List Nat} {Pre : Act → World → Prop} {a : Act} {w : World} (h : x.wp P (Exit.then (fun a w => ReachO P y ops rest Pre a w) NoExit) a w) : ReachO P (.seq x y) ops rest Pre a w := by
  intro b cs
  obtain ⟨e, a₁, w₁, hq, harr⟩ := h b [.code y] cs
  cases e with
  | normal =>
    obtain ⟨a₂, w₂, hp, hs⟩ := hq b cs
    exact ⟨a₂, w₂, hp, Steps.trans (.head step_seq harr) hs⟩
  | exit id => exact hq.elim
  | goto l => exact hq.elim
  | ret => exact hq.elim
  | panic ch => exact hq.elim
  | outgrown => exact hq.elim
theorem reachO_region {P : Program} {id : Nat} {l l' : List Oper} {n : Nat} {Pre : Act → World → Prop} {a : Act} {w : World} (hl : l.take n = l') (hn : l.length = n + 1) (hg : l.all (fun o => o.guard.isNone) = true) (h : wpList P l'.toArray (fun e a w => e = .normal ∧ Pre a w) l' a w) : ReachO P (.region id l.toArray false) l.toArray [n] Pre a w := by
  intro b cs
  subst hl
  have hlen : (l.take n).length = n := by simp; omega
  have h2 : wpOps P (l.take n).toArray (fun e a w => e = .normal ∧ Pre a w) (List.range' 0 n ++ []) a w := by
    have := wpOps_eq_wpList (P := P) (ops := (l.take n).toArray) (Q := fun e a w => e = .normal ∧ Pre a w) (l.take n) 0 (by simp)
    rw [hlen] at this
    rw [List.append_nil, this]; exact h
  have hag : ∀ i ∈ List.range' 0 n, (l.take n).toArray[i]? = l.toArray[i]? ∧ ∀ o, l.toArray[i]? = some o → o.guard = none := by
    intro i hi
    have hi' : i < n := by simpa using hi
    refine ⟨by simp [List.getElem?_take, hi'], fun o ho => ?_⟩
    have := List.all_eq_true.1 hg o (List.mem_of_getElem? (by simpa using ho))
    simpa using this
  obtain ⟨a', w', hq, hs⟩ := ops_upto (P := P) (ops := l.toArray) (rest := [n]) (fun e a w hne h => hne h.1) (List.range' 0 n) hag a w h2 b [] cs
  refine ⟨a', w', hq.2, .head step_region ?_⟩
  have e : List.range l.toArray.size = List.range' 0 n ++ [n] := by
    rw [List.size_toArray, hn, List.range_succ, List.range_eq_range']
  rw [e]; exact hs
set_option maxHeartbeats 1600000 in
theorem copyCells_ints (a0 a1 a2 : Int) (A : Option Addr) (c : Nat) (x : List Int) (w : World) (hx : RdL (Value.int .i64) w A x) (hn : x.length ≤ 1048576) (h0 : 0 < x.length) :
    Calls Try.prog 91 #[.agg #[.int .i64 a0, .int .i64 a1, .int .i64 a2, .slice A x.length c]] w fun e w' => ∃ g ex c', e = .returned (.agg #[.int .i64 a0, .int .i64 a1, .int .i64 a2, .slice (some ⟨g, 0, none⟩) x.length c']) ∧ OwnE ex w' w.heap.size 2 (some ⟨g, 0, none⟩) x ∧ (∀ v ∈ ex, ∃ i, v = .int .i64 i) ∧ Below w.heap.size w w' := by
  have HX := hid hx
  have B0 := hid ((Blk.new w 37 [.int .i64 a0, .int .i64 a1, .int .i64 a2, .slice A x.length c]).alloc (.cells #[.int .i64 0, .int .i64 0, .int .i64 0, .slice none 0 0] 37))
  have R0 := hid (Blk.new2 w (.cells #[.int .i64 a0, .int .i64 a1, .int .i64 a2, .slice A x.length c] 37) 37 [.int .i64 0, .int .i64 0, .int .i64 0, .slice none 0 0])
  clear hx
  go_enter Try.func91, Try.ntmps91
  go_wp2_with fail
  refine (cloneI_ints A c x _ (HX.out.below (below_a2 _ _ _)) hn).mono ?_
  rintro e w1 ⟨A1, c1, rfl, ho, hI, hb⟩
  obtain ⟨g, ex, rfl, hgB, hgb⟩ := ho (by rintro rfl; simp at h0)
  have hex : ∀ v ∈ ex, ∃ i, v = .int .i64 i := by
    intro v hv
    obtain ⟨cs, e, q1, q2⟩ := (hI _ rfl).2.1
    have q3 : w1.heap[g]? = some (.cells (x.map (Value.int .i64) ++ ex).toArray 2 (0, 0)) := hgb
    rw [q3] at q1
    injection q1 with q1
    injection q1 with q1 _ _
    subst q1
    exact q2 v (by simp [hv])
  have ho' : OwnE ex w1 (w.heap.size + 2) 2 (some ⟨g, 0, none⟩) x := ⟨g, rfl, by simpa using hgB, hgb⟩
  obtain ⟨c0, c1', c2, c3⟩ := (B0.out.below hb).cells4
  have g3 := (B0.out.below hb).frozen 3
  obtain ⟨d0, d1, d2, d3⟩ := (R0.out.below hb).cells4
  have f0 := (R0.out.below hb).frozen 0
  have f1 := (R0.out.below hb).frozen 1
  have f2 := (R0.out.below hb).frozen 2
  have f3 := (R0.out.below hb).frozen 3
  have S1 := below_call (below_a2 _ _ _) hb
  have O1 := hid ho'
  have HE := hid hex
  clear hb B0 R0 ho ho' hex hI hgb hgB
  go_wp2
  refine bodyPost_ret (v := .agg #[.int .i64 a0, .int .i64 a1, .int .i64 a2, .slice (some ⟨g, 0, none⟩) x.length c1]) (by simp [results, Try.results91, go_sem, d0, d1, d2, d3]) rfl ⟨g, ex, c1, rfl, ?_, HE.out, ?_⟩
  · exact (((((O1.out.setFar (by simp <;> omega) _).setFar (by simp <;> omega) _).setFar (by simp <;> omega) _).setFar (by simp <;> omega) _).setFar (by simp <;> omega) _).mono (by omega)
  · exact ((((S1.out.setCell (by simp) _).setCell (by simp) _).setCell (by simp) _).setCell (by simp) _).setCell (by simp) _
end Go.Proofs.Ytmmolicodlmlkaa
namespace Go.Proofs.Ytmmolicodlmlkaa
open Go.RowKit
open Go.Proofs.Ytmmolicodlmlkaa.Rel (Ints cut NoExit ops_upto)
open Go.Conc (base enter_at)
set_option linter.unusedVariables false
set_option linter.unusedSimpArgs false

noncomputable def csBody : Code := match Try.f90.body with | some c => c | _ => .skip
noncomputable def csOps : Array Oper := match Try.f90.body with | some (.seq _ (.seq _ (.region _ ops _))) => ops | _ => #[]
abbrev csAct (i : Int) (bo bl bm : Nat) : Act := ⟨#[.int .i64 i, ptrB bo, ptrB bl, ptrB bm, undef, undef, undef, undef, undef, undef, undef, undef, undef, undef, undef, undef, undef, undef, undef, undef, undef, undef, undef, undef, undef, undef, undef, undef, undef, undef, undef, undef, undef, undef, undef, undef, undef, undef, undef, undef, undef, undef], []⟩
set_option maxRecDepth 100000 in
set_option maxHeartbeats 8000000 in
theorem cs_run (wd dp s n g i C nn cL c : Nat) (AL : Option Addr) (xss : List (List Int)) (L : List Int) (bo bl bm : Nat) (w : World) (hw1 : 2 ≤ wd) (hw2 : wd ≤ 64) (hd1 : 1 ≤ dp) (hd2 : dp ≤ 6) (hs : s < 4294967296) (hn : n = wd * dp)
    (k0 : w.cell? ⟨bo, 0, none⟩ = some (.int .i64 wd)) (k1 : w.cell? ⟨bo, 1, none⟩ = some (.int .i64 dp)) (k2 : w.cell? ⟨bo, 2, none⟩ = some (.int .i64 s)) (k3 : w.cell? ⟨bo, 3, none⟩ = some (.slice (some ⟨g, 0, none⟩) n n)) (hg : RdL (Value.int .i64) w (some ⟨g, 0, none⟩) (List.replicate n 0))
    (hl : w.cell? ⟨bl, 0, none⟩ = some (.slice AL nn cL)) (hm : w.cell? ⟨bm, 0, none⟩ = some (.slice (some ⟨C, 0, none⟩) nn nn)) (hi : i < nn) (hnn : nn ≤ 16) (CL oL : Nat) (R : Option Addr) (cc : Nat) (hAL : AL = some ⟨CL, oL, none⟩) (hcL : w.cell? ⟨CL, oL + i, none⟩ = some (.slice R L.length cc)) (hL : RdL (Value.int .i64) w R L) (hk : keysQ L = true) :
    ReachO Try.prog csBody csOps [4] (fun a' w' => a'.defers = [] ∧ a'.tmps.size = 42 ∧ ∃ g' ex c', a'.tmps[40]? = some (.agg #[.int .i64 wd, .int .i64 dp, .int .i64 s, .slice (some ⟨g', 0, none⟩) n c']) ∧ a'.tmps[41]? = some (.pointer (some ⟨C, i * 4, none⟩)) ∧
      OwnE ex w' w.heap.size 2 (some ⟨g', 0, none⟩) (putKs wd s dp (List.replicate n 0) L) ∧ (∀ v ∈ ex, ∃ i, v = .int .i64 i)) (csAct i bo bl bm) w := by
  have HG := hid hg
  have HL := hid hL
  have HN := hid hn
  have hn0 : 0 < n := by rw [hn]; exact Nat.mul_pos (by omega) (by omega)
  have hn1 : n ≤ 384 := by
    rw [hn]
    calc wd * dp ≤ 64 * 6 := Nat.mul_le_mul hw2 hd2
      _ = 384 := rfl
  obtain ⟨hkl, hkb⟩ := keysQ_iff hk
  have HKB := hid hkb
  subst hAL
  have HRB : Hid (∀ a, R = some a → 0 < L.length → a.block < w.heap.size) := by
    intro a ha h0
    obtain ⟨b, o, hA, hc⟩ := hL 0 h0
    have := World.block_lt_of_cell? w _ hc
    rw [ha] at hA; injection hA with hA; subst hA; exact this
  have hbml := World.block_lt_of_cell? w _ hm
  have hlen0 : (List.replicate n (0 : Int)).length = n := by simp
  simp only at hbml
  clear hg hL hn hkb hk
  simp only [csBody, csOps, Try.f90]
  refine reachO_seq ?_
  go_wp2_with fail
  have hcc := copyCells_ints wd dp s (some ⟨g, 0, none⟩) n (List.replicate n 0) w HG.out (by rw [hlen0]; omega) (by rw [hlen0]; omega)
  rw [hlen0] at hcc
  refine hcc.mono ?_
  clear hcc
  rintro e w1 ⟨g', ex, c', rfl, ho, hex, hb⟩
  have HEX := hid hex
  have hgl : g' < w1.heap.size := by obtain ⟨x, e1, _, e3⟩ := ho; cases e1; exact e3.lt
  have hgB : w.heap.size ≤ g' := by obtain ⟨x, e1, e2, e3⟩ := ho; cases e1; exact e2
  have hsz := hb.size
  have Q2 := hid (Blk.new w1 37 [.int .i64 wd, .int .i64 dp, .int .i64 s, .slice (some ⟨g', 0, none⟩) n c'])
  have O2 := hid (ho.below (below_a1 w1 (.cells #[.int .i64 wd, .int .i64 dp, .int .i64 s, .slice (some ⟨g', 0, none⟩) n c'] 37)))
  have S2 := hid ((hb.alloc hsz (.cells #[.int .i64 wd, .int .i64 dp, .int .i64 s, .slice (some ⟨g', 0, none⟩) n c'] 37)))
  have hl2 := cell_grown hl S2.out
  have hm2 := cell_grown hm S2.out
  have hcL2 := cell_grown hcL S2.out
  clear hl hm hcL k0 k1 k2 k3 ho hb hex
  go_wp2
  generalize hw2e : w1.alloc (.cells #[.int .i64 wd, .int .i64 dp, .int .i64 s, .slice (some ⟨g', 0, none⟩) n c'] 37) = w2 at Q2 O2 S2 hl2 hm2 hcL2 ⊢
  have hw2s : w2.heap.size = w1.heap.size + 1 := by rw [← hw2e]; simp
  clear hw2e
  refine reachO_seq ?_
  go_wp2
  go_loopw [17] (fun j wr => ∃ k : Nat, k ≤ L.length ∧ j = .int .i64 k ∧ Hid (OwnE ex wr w.heap.size 2 (some ⟨g', 0, none⟩) (putKs wd s dp (List.replicate n 0) (L.take k))) ∧ Hid (TouchAll w2 wr [(some ⟨g', 0, none⟩, n)])) (fun j _ => L.length - (intOf j).toNat)
  case atStart => exact ⟨0, Nat.zero_le _, rfl, by rw [List.take_zero]; exact O2, touch_all_refl⟩
  case round =>
    obtain ⟨k, hkr, rfl, hok, hT⟩ := hrel
    have Q3 := hid (Q2.out.touches hT.out (by omega))
    by_cases hkl' : k < L.length
    · have hj : (k : Int) < (L.length : Int) := by omega
      obtain ⟨b, o, v, rfl, hcv0, hvk⟩ := HL.out.at_ hkl'
      have hbl := HRB.out _ rfl (by omega)
      have hcv := cell_touches (cell_grown hcv0 S2.out) hT.out (by simp at hbl ⊢; omega)
      have hvb := HKB.out v (List.mem_of_getElem? hvk.out)
      obtain ⟨vn, rfl⟩ := Int.eq_ofNat_of_zero_le hvb.1
      have hvl : vn < 4294967296 := by omega
      have hyl : Hid ((putKs wd s dp (List.replicate n 0) (L.take k)).length = n) := by show _ = _; rw [putKs_length]; simp
      have hyb : Hid (∀ z ∈ putKs wd s dp (List.replicate n 0) (L.take k), -1536 ≤ z ∧ z ≤ 1536) := by
        intro z hz
        have := putKs_bound (ks := L.take k) (lo := 0) (hi := 0) hd2 (fun z hz => by
          obtain ⟨_, rfl⟩ := List.mem_replicate.1 hz
          omega) z hz
        have h9 : (L.take k).length ≤ 256 := by rw [List.length_take]; omega
        omega
      have hsn : Hid (addAt 1 (putKs wd s dp (List.replicate n 0) (L.take k)) (cellsL wd s vn dp) = putKs wd s dp (List.replicate n 0) (L.take (k + 1))) := by
        show _ = _
        rw [List.take_add_one, hvk.out, Option.toList_some, putKs_snoc, Int.toNat_natCast]
      generalize putKs wd s dp (List.replicate n 0) (L.take k) = y at hok hyl hyb hsn
      obtain ⟨q0, q1, q2, q3⟩ := Q3.out.cells4
      clear hcv0 hvb hvk
      go_wp2_with fail
      refine (places_any wd dp s vn n c' _ _ hw1 hw2 hd2 hs hvl).mono ?_
      rintro e w3 ⟨A3, c3, rfl, hoP, hbP⟩
      have HP := hid hoP
      have O3 := hid (hok.out.below hbP)
      have Q4 := hid (Q3.out.below hbP)
      have T3 := hid (touch_all2 hT.out ⟨hbP.os, hbP.tape, hbP.output, hbP.size, fun b hb' _ => hbP.block b hb'⟩)
      have hgr : g' < wr.heap.size := by have := hT.out.size; omega
      have HA := hid (OwnS.apart_lt (OwnS.mono hok.out.own (Nat.zero_le _)) hoP (Nat.le_refl _))
      have hPl := cellsL_length wd s vn dp
      have hmem : Hid (∀ p ∈ cellsL wd s vn dp, ∃ m : Nat, p = m ∧ m < n) := fun p hp' => by rw [HN.out]; exact cellsL_mem (by omega) hp'
      obtain ⟨P, hPe⟩ : ∃ P, P = cellsL wd s vn dp := ⟨_, rfl⟩
      rw [← hPe] at HA HP hPl hmem hsn ⊢
      have hP8 : P.length ≤ 6 := by omega
      clear hPe hPl hoP hbP hok hT Q3 q0 q1 q2 q3
      generalize wr = wr0 at *
      clear wr
      go_wp2
      go_loopw [25] (fun j wr => ∃ m : Nat, m ≤ P.length ∧ j = .int .i64 m ∧ Hid (OwnE ex wr w.heap.size 2 (some ⟨g', 0, none⟩) (addAt 1 y (P.take m))) ∧ Hid (Touch w3 wr (some ⟨g', 0, none⟩) y.length)) (fun j _ => P.length - (intOf j).toNat)
      case atStart => exact ⟨0, Nat.zero_le _, rfl, by rw [addAt_zero]; exact O3, Touch.refl⟩
      case round =>
        obtain ⟨m, hmr, rfl, hom, hTm⟩ := hrel
        by_cases hlm : m < P.length
        · have him : (m : Int) < (P.length : Int) := by omega
          obtain ⟨b3, o3, p, rfl, hcp, hpk⟩ := (HP.out.touch hTm.out HA.out).rd.at_ hlm
          obtain ⟨pn, rfl, hnx⟩ := hmem.out p (List.mem_of_getElem? hpk.out)
          have hlen := addAt_length 1 y (P.take m)
          have hyl' := hyl.out
          obtain ⟨g2, u, hg', hgB', hcy, hfy, hym, hput⟩ := hom.out.put (j := pn) (by omega)
          injection hg' with hg'; injection hg' with hg'
          subst hg'
          have hbu := addAt_bound (l := P.take m) (D := 1) hyb.out (d := 1) (by omega) (by omega) u (List.mem_of_getElem? hym.out)
          have hkl2 : (P.take m).length ≤ 6 := by simp; omega
          have hO2 := hput (u + 1)
          rw [addAt_succ hpk hym] at hO2
          have hT2 := hid (hTm.out.set_ (by omega) pn (.int .i64 (u + 1)))
          obtain ⟨q0, q1, q2, q3⟩ := (Q4.out.touch hTm.out (by omega)).cells4
          have hn' : (pn : Int) < (n : Int) := by omega
          have hn0' : (0 : Int) ≤ (pn : Int) := by omega
          have e1 : IntKind.i64.wrap (u + 1) = u + 1 := by rw [IntKind.wrap_i64]; omega
          clear hput q0 q1 q2 hlen hgB' hbu hkl2 hym hyl'
          go_wp2
          exact ⟨⟨m + 1, by omega, by go_num, hO2, hT2⟩, by simp [intOf]; omega⟩
        · have him : ¬ (m : Int) < (P.length : Int) := by omega
          have he := hom.out
          rw [List.take_of_length_le (show P.length ≤ m by omega), hsn.out] at he
          have O4 := hid he
          have T4 : Hid (TouchAll w2 wr [(some ⟨g', 0, none⟩, n)]) := by
            have := TouchAll.of_touch hTm.out
            rw [hyl.out] at this
            exact touch_all2 T3.out this
          go_wp2
          exact ⟨⟨k + 1, by omega, by go_num, O4, T4⟩, by simp [intOf]; omega⟩
    · have hj : ¬ (k : Int) < (L.length : Int) := by omega
      obtain rfl : k = L.length := by omega
      have O5 := hok.out
      rw [List.take_length] at O5
      have O6 := hid O5
      have hm3 := cell_touches hm2 hT.out (by simp; omega)
      obtain ⟨q0, q1, q2, q3⟩ := Q3.out.cells4
      clear O5 hok
      go_wp2
      refine reachO_region rfl rfl rfl ?_
      simp only [List.take_succ_cons, List.take_zero]
      go_wp2
      exact ⟨ex, O6.out, HEX.out⟩
end Go.Proofs.Ytmmolicodlmlkaa
