/-
  Bytes that are put together; FnWords: the walk of the law.
-/
import Derived.Test.YtbodfepfapjikaaDoorWordsA
import Derived.Test.YtbodfepfapjikaaDoorWordsP
import Derived.Deep.CutRange
namespace Go.Proofs.YtbodfepfapjikaaDoor
open Go.RowKit
set_option linter.unusedVariables false
set_option linter.unusedSimpArgs false

theorem Tryd.infoU8 : (Tryd.prog.info? 5).map (fun i => (i.zero, i.size, i.bytes)) = some (some (.int .u8 0), 1, 1) := by kernel_rfl
/-- v is a slice of bytes of the call's own (from block B on) that holds xs, as append leaves it. -/
def OwnV8 (w : World) (B : Nat) (v : Value) (xs : List Int) : Prop := w.ownsRow B 5 1 v xs.length (xs.map (Value.int .u8))
theorem OwnV8.made (w : World) {B : Nat} (hB : B ≤ w.heap.size) : OwnV8 (w.alloc (.cells #[] 5)) B (.slice (some ⟨w.heap.size, 0, none⟩) 0 0) [] := World.ownsRow_made w #[] 0 hB (Nat.zero_le _) rfl
theorem OwnV8.ownS {w : World} {B : Nat} {v : Value} {xs : List Int} (h : OwnV8 w B v xs) : ∃ A c, v = .slice A xs.length c ∧ OwnS (Value.int .u8) w B 5 A xs := ownS_of_row h rfl
theorem app_u8 {ops : Array Oper} {rest : List Oper} {o : Oper} {a : Act} {Q : Exit → Act → World → Prop} (hgd : o.guard = none) (s x : Operand)
    (ho : o.op = .call { callee := .builtin .append, args := #[s, x], argTypes := #[28, 28] })
    (y : Int) {w0 wr : World} {B : Nat} {v : Value} {xs : List Int} (hown : OwnV8 wr B v xs) (hB : Below B w0 wr) (hs : a.eval s = v) (hx : a.eval x = .slice (some ⟨wr.heap.size, 0, none⟩) 1 1)
    (hl : xs.length ≤ 1048577) (hsz : B ≤ wr.heap.size)
    (h : ∀ v' w', Hid (OwnV8 w' B v' (xs ++ [y])) → Hid (Below B w0 w') → wpList Tryd.prog ops Q rest (a.put o.dst v') w') :
    wpList Tryd.prog ops Q (o :: rest) a (wr.alloc (.cells #[.int .u8 y] 5)) := by
  obtain ⟨i0, hi0, hz0, hz1, hz2⟩ := info_parts Tryd.infoU8
  refine wpList_append_own_at (wr.alloc (.cells #[.int .u8 y] 5)) hgd s x 28 ho B 5 i0 (.int .u8 0) 1 1 Tryd.underlying28 hi0 hz0 hz1 hz2 rfl (by decide) v xs.length _ hs (World.ownsRow.alloc hown _) ⟨wr.heap.size, 0, none⟩ 1 1 [.int .u8 y] hx rfl (cell_one_new _ _ _) ?_ ?_ ?_ ?_ ?_
  · intro u hu; simp at hu; subst hu; rfl
  · simp only [maxLen]; omega
  · omega
  · simp; omega
  · intro v' w1 hown' hgrow _ hat
    refine h v' w1 ?_ ?_
    · have e : (xs ++ [y]).length = xs.length + 1 := by simp
      unfold OwnV8
      rw [e, List.map_append]; exact hown'
    · exact (hB.alloc hsz _).grown hgrow (by simp; omega) (fun g hg => (World.ownsRow.lt (World.ownsRow.alloc hown (.cells #[.int .u8 y] 5)) g hg).1)
theorem conv_own8 {w : World} {B : Nat} {v : Value} {xs : List Int} (h : OwnV8 w B v xs) : (convert 28 9 v).run Tryd.prog w = .ok (.string (strOfNums xs)) w := by
  obtain ⟨A, c, hv, hos⟩ := h.ownS
  obtain ⟨hn, ⟨h0, h1⟩ | ⟨g, cap, cur, hv2, hB, hg, hc, hm, hs, ht⟩⟩ := h
  · obtain rfl : xs = [] := List.eq_nil_of_length_eq_zero h1
    rw [h0]
    exact run_convert_bytes_nil (P := Tryd.prog) w 28 5 Tryd.underlying28 Tryd.underlying5 0 0 9 Tryd.underlying9
  · rw [hv2]
    rw [hv2] at hv
    injection hv with hv _ _
    refine run_convert_bytes_arg (P := Tryd.prog) w 28 5 Tryd.underlying28 Tryd.underlying5 g 0 xs.length cap xs rfl (fun i hi => ?_) 9 Tryd.underlying9
    obtain ⟨b, o, hb, hc⟩ := hos.rd i hi
    rw [← hv] at hb
    injection hb with hb
    injection hb with e1 e2
    subst e1; subst e2
    rw [hc, List.getD, List.getElem?_eq_getElem hi]; rfl
set_option maxRecDepth 100000 in
set_option maxHeartbeats 6400000 in
theorem FnWords_any (A : Option Addr) (c : Nat) (x : List Int) (A' : Option Addr) (c' : Nat) (y : List Int) (m : Int) (w : World) (hx : RdL (Value.int .u8) w A x) (hm : x.length ≤ 9223372036854775807) (hbx : Byt x) (hy : RdL (Value.int .u8) w A' y) (hm' : y.length ≤ 9223372036854775807) (hby : Byt y)
    (hT : TabW w) (hml : w.cell? ⟨1, 0, none⟩ = some (.int .i64 m)) :
    Calls Tryd.prog 4 #[.slice A x.length c, .slice A' y.length c'] w fun e w' => e = .returned (.bool true) ∧ Below w.heap.size w w' := by
  have HX := hid hx
  have HY := hid hy
  have BX := hid hbx
  have BY := hid hby
  have HT := hid hT
  have hmb : Hid (∀ w', Below w.heap.size w w' → w'.cell? ⟨1, 0, none⟩ = some (.int .i64 m)) := fun w' hb => (hb.cell (p := ⟨1, 0, none⟩) (World.block_lt_of_cell? w _ hml)).trans hml
  clear hx hy hbx hby hT hml
  by_cases hlong : 48 < x.length ∨ 48 < y.length
  · have hd : decide (48 < x.length ∨ 48 < y.length) = true := decide_eq_true hlong
    have C0 : Hid (∀ w, Calls Tryd.prog 10 #[.slice A x.length c, .slice A' y.length c'] w fun e w' => e = .returned (.bool true) ∧ w = w') := fun w => hd ▸ r8Long_any A A' x.length y.length c c' w
    clear hd hlong
    go_enter Tryd.func4, Tryd.ntmps4
    go_wp2_with (go_at_call 10; refine (C0.out _).mono ?_; rintro e w' ⟨rfl, rfl⟩)
    go_ret
    exact ⟨rfl, Below.refl _ _⟩
  have hd : decide (48 < x.length ∨ 48 < y.length) = false := decide_eq_false hlong
  have C0 : Hid (∀ w, Calls Tryd.prog 10 #[.slice A x.length c, .slice A' y.length c'] w fun e w' => e = .returned (.bool false) ∧ w = w') := fun w => hd ▸ r8Long_any A A' x.length y.length c c' w
  have hn : x.length ≤ 48 := by omega
  have hn' : y.length ≤ 1048576 := by omega
  have CA : Hid (∀ (i n : Int) w', RdL (Value.int .u8) w' A' y → 0 ≤ i → i ≤ 1000 → 1 < n → n ≤ 256 → Calls Tryd.prog 11 #[.slice A' y.length c', .int .i64 i, .int .i64 n] w' fun e w'' => (∃ r, e = .returned (.int .i64 r) ∧ 0 ≤ r ∧ r < n) ∧ w' = w'') := fun i n w' h1 h2 h3 h4 h5 => r8At_any A' c' y i n w' h1 BY.out hn' h2 h3 h4 h5
  clear hd hlong
  go_enter Tryd.func4, Tryd.ntmps4
  go_wp2_with (go_at_call 10; refine (C0.out _).mono ?_; rintro e w' ⟨rfl, rfl⟩)
  refine (CA.out 0 32 w HY.out (by decide) (by decide) (by decide) (by decide)).mono ?_
  rintro e w' ⟨⟨r0, rfl, h00, h01⟩, rfl⟩
  obtain ⟨k, rfl⟩ := Int.eq_ofNat_of_zero_le h00
  obtain ⟨one, hone⟩ : ∃ one, one = 2 ^ k := ⟨_, rfl⟩
  have hk32 : k < 32 := by omega
  have h1lt : one < 4294967296 := by
    have := Nat.pow_lt_pow_right (a := 2) (by omega) hk32
    rw [hone]; exact this
  have hwr : wrap64 ((2 : Int) ^ k) = (one : Int) := by
    rw [show (2 : Int) ^ k = (one : Int) by rw [hone]; norm_cast]
    exact IntWalk.wrap64_in _ ⟨by omega, by omega⟩
  have Z1 : Hid (∀ w, Calls Tryd.prog 12 #[.int .i64 (one : Int)] w fun e w' => e = .returned (.tuple #[.int .i64 (31 - (k : Int)), .bool true]) ∧ w = w') := fun w => by
    have h := ZerosOf_any one w h1lt
    rw [hone, lzN_pow k hk32, ← hone, show ((31 - k : Nat) : Int) = 31 - (k : Int) by omega] at h
    exact h
  have L1 : Hid (∀ w, TabW w → Calls Tryd.prog 13 #[.int .i64 (one : Int)] w fun e w' => e = .returned (.tuple #[.int .i64 (k : Int), .bool true]) ∧ w = w') := fun w hT => by
    have h := LowZerosOf_any one w h1lt hT
    rw [hone, ctz_pow k hk32, ← hone] at h
    exact h
  have Z0 : Hid (∀ w, Calls Tryd.prog 12 #[.int .i64 0] w fun e w' => e = .returned (.tuple #[.int .i64 32, .bool true]) ∧ w = w') := fun w => by
    have h := ZerosOf_any 0 w (by omega)
    rw [lzN_zero] at h
    exact h
  have L0 : Hid (∀ w, TabW w → Calls Tryd.prog 13 #[.int .i64 0] w fun e w' => e = .returned (.tuple #[.int .i64 32, .bool true]) ∧ w = w') := fun w hT => by
    have h := LowZerosOf_any 0 w (by omega) hT
    rw [ctz_zero] at h
    exact h
  clear hone
  go_wp2_with fail
  rw [hwr]
  refine (Z1.out _).mono ?_
  rintro e w' ⟨rfl, rfl⟩
  go_wp2_with fail
  refine (L1.out _ HT.out).mono ?_
  rintro e w' ⟨rfl, rfl⟩
  go_wp2_with fail
  refine (Z0.out _).mono ?_
  rintro e w' ⟨rfl, rfl⟩
  go_wp2_with fail
  refine (L0.out _ HT.out).mono ?_
  rintro e w' ⟨rfl, rfl⟩
  go_wp2_with fail
  refine (CA.out 1 256 w HY.out (by decide) (by decide) (by decide) (by decide)).mono ?_
  rintro e w' ⟨⟨r1, rfl, h10, h11⟩, rfl⟩
  go_wp2_with fail
  refine (CA.out 2 256 w HY.out (by decide) (by decide) (by decide) (by decide)).mono ?_
  rintro e w' ⟨⟨r2, rfl, h20, h21⟩, rfl⟩
  go_wp2_with fail
  refine (CA.out 3 256 w HY.out (by decide) (by decide) (by decide) (by decide)).mono ?_
  rintro e w' ⟨⟨r3, rfl, h30, h31⟩, rfl⟩
  go_wp2_with fail
  obtain ⟨wd, hwd⟩ : ∃ wd : Nat, r1 * 16777216 + r2 * 65536 + r3 = (wd : Int) := Int.eq_ofNat_of_zero_le (by omega)
  have hwb : wd < 4294967296 := by omega
  rw [hwd]
  clear h10 h11 h20 h21 h30 h31 hwd hwr Z1 L1 Z0 L0
  obtain ⟨u, hu⟩ : ∃ u, u = lzN wd := ⟨_, rfl⟩
  obtain ⟨dn, hdn⟩ : ∃ dn, dn = Lib.ctz 32 wd := ⟨_, rfl⟩
  have Z1 : Hid (∀ w, Calls Tryd.prog 12 #[.int .i64 (wd : Int)] w fun e w' => e = .returned (.tuple #[.int .i64 (u : Int), .bool true]) ∧ w = w') := fun w => by
    rw [hu]; exact ZerosOf_any wd w hwb
  have L1 : Hid (∀ w, TabW w → Calls Tryd.prog 13 #[.int .i64 (wd : Int)] w fun e w' => e = .returned (.tuple #[.int .i64 (dn : Int), .bool true]) ∧ w = w') := fun w hT => by
    rw [hdn]; exact LowZerosOf_any wd w hwb hT
  have FU : Hid (0 < wd → u ≤ 31 ∧ wd / 2 ^ (31 - u) = 1) := fun h => by rw [hu]; exact lzN_top h hwb
  have FD : Hid (0 < wd → dn ≤ 31 ∧ wd / 2 ^ dn % 2 = 1) := fun h => by rw [hdn]; exact ctz_low h hwb
  clear hu hdn
  refine (Z1.out _).mono ?_
  rintro e w' ⟨rfl, rfl⟩
  go_wp2_with fail
  refine (L1.out _ HT.out).mono ?_
  rintro e w' ⟨rfl, rfl⟩
  go_upto_region 14 with (fail)
  go_cut [131] from 106 to 131 (fun v wx => v = .bool false ∧ wx = w)
  case first =>
    by_cases hw0 : 0 < wd
    · have hw0' : (0 : Int) < (wd : Int) := by omega
      obtain ⟨fu1, fu2⟩ := FU.out hw0
      obtain ⟨fd1, fd2⟩ := FD.out hw0
      have s1 : (wd : Int) / 2 ^ (31 - u) = 1 := by
        have h := congrArg (fun n : Nat => (n : Int)) fu2
        simpa using h
      have s2 : (((wd : Int) / 2 ^ dn).tmod 2 != 1) = false := by
        have h : ((wd / 2 ^ dn % 2 : Nat) : Int) = 1 := by rw [fd2]; rfl
        have e : (wd : Int) / 2 ^ dn = ((wd / 2 ^ dn : Nat) : Int) := by simp
        rw [e, bne_eq_false_iff_eq]
        exact h
      clear fu2 fd2
      go_wp2
      go_meet
      case rel => exact ⟨rfl, rfl⟩
    · have hw0' : ¬ (0 : Int) < (wd : Int) := by omega
      go_wp2
      go_meet
      case rel => exact ⟨rfl, rfl⟩
  case rest =>
  obtain ⟨rfl, hwc⟩ := hcut
  replace hwc := hwc.symm
  subst hwc
  clear FU FD Z1 L1
  have O1 := hid (OwnV8.made w (Nat.le_refl _))
  have S1 : Hid (Below w.heap.size w (w.alloc (.cells #[] 5))) := (Below.refl _ _).alloc (Nat.le_refl _) _
  go_wp2
  go_loopw [20, 21] (fun v i wr => ∃ j : Nat, i = .int .i64 j ∧ j ≤ x.length ∧ Hid (OwnV8 wr w.heap.size v (cleanN (x.take j))) ∧ Hid (Below w.heap.size w wr)) (fun _ i _ => x.length - (intOf i).toNat)
  case atStart => exact ⟨0, rfl, Nat.zero_le _, by show OwnV8 _ _ _ _; rw [List.take_zero]; exact O1.out, S1⟩
  case round =>
    obtain ⟨j, rfl, hj, hO, hW⟩ := hrel
    clear O1 S1
    by_cases hlt : j < x.length
    · have hi : (j : Int) < (x.length : Int) := by omega
      obtain ⟨b, o, z, rfl, hc, hz⟩ := (HX.out.below hW.out).at_ hlt
      have hsn : x.take (j + 1) = x.take j ++ [z] := by rw [List.take_add_one, hz.out]; rfl
      have hx48 : (cleanN (x.take j)).length ≤ 48 := Nat.le_trans (cleanN_le _) (by rw [List.length_take]; omega)
      obtain ⟨xs, hxs⟩ : ∃ xs, xs = cleanN (x.take j) := ⟨_, rfl⟩
      rw [← hxs] at hO hx48
      by_cases h32 : z = 32
      · have HN : Hid (cleanN (x.take (j + 1)) = xs) := by show _ = _; rw [hsn, cleanN_snoc_no h32, hxs]
        subst h32
        clear hsn hxs hz
        go_wp2
        refine ⟨⟨j + 1, by go_num, by omega, ?_, hW⟩, by simp [intOf]; omega⟩
        rw [HN.out]; exact hO
      · have HN : Hid (cleanN (x.take (j + 1)) = xs ++ [z]) := by show _ = _; rw [hsn, cleanN_snoc h32, hxs]
        have hb : (z != 32) = true := bne_iff_ne.2 h32
        have hszW := hW.out.size
        have hx7 : xs.length ≤ 1048577 := by omega
        clear hsn hxs hz h32
        go_wp2_with (at_builtin; refine app_u8 rfl _ _ rfl z hO.out hW.out rfl rfl hx7 hszW ?_)
        intro v' w' O3 W3
        clear hO hW
        go_wp2
        refine ⟨⟨j + 1, by go_num, by omega, ?_, W3⟩, by simp [intOf]; omega⟩
        rw [HN.out]; exact O3
    · have hi : ¬ (j : Int) < (x.length : Int) := by omega
      obtain rfl : j = x.length := by omega
      rw [List.take_length] at hO
      have hcv := conv_own8 hO.out
      obtain ⟨A2, c2, rfl, hos⟩ := hO.out.ownS
      obtain ⟨T, hT⟩ : ∃ T, T = strOfNums (cleanN x) := ⟨_, rfl⟩
      have hTs : T.size ≤ 48 := by rw [hT, strOfNums_size]; exact Nat.le_trans (cleanN_le x) hn
      have HTC : Hid (∀ c ∈ T.data.toList, c ≠ 32) := by rw [hT, strOfNums_data]; exact cleanN_ok BX.out
      rw [← hT] at hcv
      obtain ⟨cn, hcn⟩ : ∃ cn, cn = (cleanN x).length := ⟨_, rfl⟩
      rw [← hcn] at hcv ⊢
      clear hT hO hos hcn
      obtain ⟨S, hS⟩ : ∃ S : ByteArray, S = ({ data := #[32, 32] } ++ T ++ { data := #[32, 120, 32] } ++ T ++ { data := #[32] }) := ⟨_, rfl⟩
      have hSd : S.data.toList = [32, 32] ++ T.data.toList ++ [32, 120, 32] ++ T.data.toList ++ [32] := by
        rw [hS]; simp [ByteArray.data_append]
      have hSs : S.size ≤ 1048576 := by
        have h := congrArg List.length hSd
        have h3 : T.data.toList.length = T.size := by simp
        have h4 : S.data.toList.length = S.size := by simp
        simp only [List.length_append, List.length_cons, List.length_nil] at h
        omega
      obtain ⟨kt, hkt⟩ : ∃ kt, kt = keyT T.data.toList := ⟨_, rfl⟩
      obtain ⟨kx, hkx⟩ : ∃ kx, kx = keyT [120] := ⟨_, rfl⟩
      have CKT : Hid (∀ w, Calls Tryd.prog 14 #[.string T] w fun e w' => e = .returned (.int .i64 (kt : Int)) ∧ w = w') := fun w => by
        rw [hkt]; exact KeyOfText_any T w (by omega)
      have CKX : Hid (∀ w, Calls Tryd.prog 14 #[.string { data := #[120] }] w fun e w' => e = .returned (.int .i64 (kx : Int)) ∧ w = w') := fun w => by
        rw [hkx]; exact KeyOfText_any ⟨#[120]⟩ w (by decide)
      have CK0 : Hid (∀ w, Calls Tryd.prog 14 #[.string { data := #[] }] w fun e w' => e = .returned (.int .i64 2166136261) ∧ w = w') := fun w => by
        have h := KeyOfText_any ⟨#[]⟩ w (by decide)
        rw [show keyT (⟨#[]⟩ : ByteArray).data.toList = 2166136261 from keyT_nil] at h
        exact h
      obtain ⟨L, hL⟩ : ∃ L, L = if T.data.toList.isEmpty then [(kx : Int)] else [(kt : Int), (kx : Int), (kt : Int)] := ⟨_, rfl⟩
      have hL3 : L.length ≤ 3 := by rw [hL]; split <;> simp
      have HLB : Hid (∀ y ∈ L, 0 ≤ y ∧ y ≤ 4294967295) := by
        have e : L = keysT ([32, 32] ++ T.data.toList ++ [32, 120, 32] ++ T.data.toList ++ [32]) := by rw [keysT_joined _ HTC.out, hL, hkt, hkx]
        rw [e]; exact keysW_bd _
      have CKS : Hid (∀ w m, w.cell? ⟨1, 0, none⟩ = some (.int .i64 m) → Calls Tryd.prog 6 #[.string S] w fun e w' => ∃ A c, e = .returned (.tuple #[.slice A L.length c, .bool true]) ∧ OwnS (Value.int .i64) w' w.heap.size 2 A L ∧ Below w.heap.size w w') := fun w m hm => by
        have h := iKeysOfText_any S m w hSs hm
        have e : pKeysOfText S.data.toList = (L, true) := by
          unfold pKeysOfText
          rw [hSd, keysT_joined _ HTC.out, ← hkt, ← hkx, ← hL, if_pos (by omega)]
        rw [e] at h
        exact h
      have HL := hid hL
      have HTC2 := HTC
      clear hSd hSs hkt hkx hL HTC
      go_wp2_with fail
      rw [← hS]
      clear hS
      refine (CKS.out _ m (hmb.out _ hW.out)).mono ?_
      rintro e W1 ⟨Aw, cw, rfl, how, hb⟩
      have Ow := hid (OwnS.rd how)
      have S2 := hid (hW.out.trans (hb.mono hW.out.size))
      clear how hb CKS hcv hW
      go_wp2_with fail
      refine (CKT.out _).mono ?_
      rintro e w' ⟨rfl, rfl⟩
      go_wp2_with fail
      refine (CKX.out _).mono ?_
      rintro e w' ⟨rfl, rfl⟩
      go_wp2_with fail
      refine (CKT.out _).mono ?_
      rintro e w' ⟨rfl, rfl⟩
      obtain ⟨W2, hW2⟩ : ∃ W2, W2 = W1.alloc (.cells #[.int .i64 kt, .int .i64 kx, .int .i64 kt] 2) := ⟨_, rfl⟩
      go_upto_region 25 with (fail)
      rw [← hW2]
      have B2 : Hid (Blk W2 W1.heap.size 2 ([(kt : Int), kx, kt].map (Value.int .i64))) := by rw [hW2]; exact Blk.new _ _ _
      have S3 : Hid (Below w.heap.size w W2) := by rw [hW2]; exact S2.out.alloc S2.out.size _
      have Ow2 : Hid (RdL (Value.int .i64) W2 Aw L) := by rw [hW2]; exact Ow.out.below ((Below.refl _ _).alloc (Nat.le_refl _) _)
      clear hW2 S2 Ow
      go_cut [170] from 132 to 170 (fun v wx => v = .bool T.data.toList.isEmpty ∧ wx = W2)
      case first =>
        cases hE : T.data.toList.isEmpty with
        | true =>
          have f1 : T.toList = [] := by rw [ByteArray.toList_eq]; simpa using hE
          have HE := hid hE
          clear hE
          go_wp2
          go_meet
          case rel => exact ⟨by rw [HE.out], rfl⟩
        | false =>
          have f1 : T.toList ≠ [] := by rw [ByteArray.toList_eq]; intro h; rw [h] at hE; simp at hE
          have f2 : T.toList.isEmpty = false := by rw [ByteArray.toList_eq]; exact hE
          have HE := hid hE
          clear hE
          go_wp2
          go_meet
          case rel => exact ⟨by rw [HE.out], rfl⟩
      case rest =>
      obtain ⟨rfl, hwc⟩ := hcut
      replace hwc := hwc.symm
      subst hwc
      obtain ⟨tE, htE⟩ : ∃ tE, tE = T.data.toList.isEmpty := ⟨_, rfl⟩
      have hL := HL.out
      rw [← htE] at hL ⊢
      clear htE HL
      go_upto_if 170 with (fail)
      go_cut [25] from 132 to 172 (fun v wx => ∃ (Ag : Option Addr) (cg : Nat), v = .slice Ag L.length cg ∧ Hid (RdL (Value.int .i64) wx Ag L) ∧ Hid (RdL (Value.int .i64) wx Aw L) ∧ Hid (Below w.heap.size w wx))
      case first =>
        cases tE with
        | true =>
          rw [if_pos rfl] at hL
          have HL2 := hid hL
          clear hL
          go_wp2_with fail
          refine (CKX.out _).mono ?_
          rintro e w' ⟨rfl, rfl⟩
          go_wp2
          go_meet
          case rel =>
            refine ⟨_, _, by rw [HL2.out]; rfl, ?_, hid (Ow2.out.below ((Below.refl _ _).alloc (Nat.le_refl _) _)), hid (S3.out.alloc S3.out.size _)⟩
            rw [HL2.out]
            exact hid (Blk.rd0 (xs := [(kx : Int)]) (Blk.new _ _ _))
        | false =>
          rw [if_neg (by decide)] at hL
          have HL2 := hid hL
          clear hL
          go_wp2
          go_meet
          case rel =>
            refine ⟨_, _, by rw [HL2.out]; rfl, ?_, Ow2, S3⟩
            rw [HL2.out]
            exact hid (Blk.rd0 (xs := [(kt : Int), kx, kt]) B2.out)
      case rest =>
      obtain ⟨Ag, cg, rfl, Og, Ow3, S4⟩ := hcut
      clear S3 Ow2 B2 hL
      have hsa : (T ++ { data := #[97] } : ByteArray).size ≤ 49 := by
        rw [ByteArray.size_append]
        have : (⟨#[97]⟩ : ByteArray).size = 1 := rfl
        omega
      have hsb : (T ++ { data := #[98] } : ByteArray).size ≤ 49 := by
        rw [ByteArray.size_append]
        have : (⟨#[98]⟩ : ByteArray).size = 1 := rfl
        omega
      obtain ⟨ka, hka⟩ : ∃ ka, ka = keyT (T ++ { data := #[97] } : ByteArray).data.toList := ⟨_, rfl⟩
      obtain ⟨kb, hkb⟩ : ∃ kb, kb = keyT (T ++ { data := #[98] } : ByteArray).data.toList := ⟨_, rfl⟩
      have CKA : Hid (∀ w, Calls Tryd.prog 14 #[.string (T ++ { data := #[97] })] w fun e w' => e = .returned (.int .i64 (ka : Int)) ∧ w = w') := fun w => by
        rw [hka]; exact KeyOfText_any _ w (by omega)
      have CKB : Hid (∀ w, Calls Tryd.prog 14 #[.string (T ++ { data := #[98] })] w fun e w' => e = .returned (.int .i64 (kb : Int)) ∧ w = w') := fun w => by
        rw [hkb]; exact KeyOfText_any _ w (by omega)
      have hne : ((ka : Int) != (kb : Int)) = true := by
        rw [bne_iff_ne]
        have h := keyT_apart T.data.toList
        have ea : (T ++ { data := #[97] } : ByteArray).data.toList = T.data.toList ++ [97] := by simp [ByteArray.data_append]
        have eb : (T ++ { data := #[98] } : ByteArray).data.toList = T.data.toList ++ [98] := by simp [ByteArray.data_append]
        rw [ea] at hka
        rw [eb] at hkb
        rw [← hka, ← hkb] at h
        omega
      clear hsa hsb hka hkb
      go_wp2_with fail
      refine (CK0.out _).mono ?_
      rintro e w' ⟨rfl, rfl⟩
      go_wp2
      go_loopw [26] (fun i wr => ∃ j : Nat, i = .int .i64 j ∧ j ≤ L.length ∧ Hid (RdL (Value.int .i64) wr Ag L) ∧ Hid (RdL (Value.int .i64) wr Aw L) ∧ Hid (Below w.heap.size w wr)) (fun i _ => L.length - (intOf i).toNat)
      case atStart => exact ⟨0, rfl, Nat.zero_le _, Og, Ow3, S4⟩
      case round =>
        obtain ⟨j, rfl, hj, hG, hWd, hW⟩ := hrel
        clear Og Ow3 S4
        by_cases hlt : j < L.length
        · have hi : (j : Int) < (L.length : Int) := by omega
          obtain ⟨b, o, z, rfl, hc1, hz⟩ := hG.out.at_ hlt
          obtain ⟨b', o', z', rfl, hc2, hz'⟩ := hWd.out.at_ hlt
          obtain rfl : z = z' := by
            have h := hz.out
            rw [hz'.out] at h
            exact (Option.some.inj h).symm
          obtain ⟨hy0, hy1⟩ := HLB.out z (List.mem_of_getElem? hz.out)
          have hkey : inB z 0 4294967295 = true := inB_iff.2 ⟨hy0, hy1⟩
          clear hz hz'
          go_wp2
          go_quiet ((go_at_call 15; refine Calls.quiet_of_same ((IsKey_any _ _).mono fun _ _ ⟨h, h'⟩ => ⟨h, h'.symm⟩)))
          go_wp2
          exact ⟨⟨j + 1, by go_num, by omega, hG, hWd, hid (below_drewN hW.out _)⟩, by simp [intOf]; omega⟩
        · have hi : ¬ (j : Int) < (L.length : Int) := by omega
          go_wp2_with fail
          refine (CKA.out _).mono ?_
          rintro e w' ⟨rfl, rfl⟩
          go_wp2_with fail
          refine (CKB.out _).mono ?_
          rintro e w' ⟨rfl, rfl⟩
          go_wp2
          go_ret
          exact ⟨ret_bool (by simp), hW.out⟩
end Go.Proofs.YtbodfepfapjikaaDoor
