/-
  The keys of the words of a text, reference and program, by contracts.
-/
import Derived.Test.YtbodfepfapjikaaDoorTextP
import Derived.Test.YtbodfepfapjikaaDoorKeys
import Derived.Test.YtbodfepfapjikaaDoorApp
import Derived.Test.YtbodfepfapjikaaDoorHelp
import Derived.Laws.BitsAllLaws
import Derived.Shelf.LaysM
import Derived.Shelf.Strings.SplitShaped
namespace Go.Proofs.YtbodfepfapjikaaDoor
open Go.RowKit Go.Shelf
set_option linter.unusedVariables false
set_option linter.unusedSimpArgs false

theorem take_snocB (s : ByteArray) (k : Nat) (h : k < s.size) : s.data.toList.take (k + 1) = s.data.toList.take k ++ [s[k]] := by
  rw [List.take_succ_eq_append_getElem (by simpa using h)]; rfl
theorem keyT_take (s : ByteArray) (k : Nat) (h : k < s.size) : keyT (s.data.toList.take (k + 1)) = ((keyT (s.data.toList.take k) ^^^ s[k].toNat) * 16777619) % 4294967296 := by
  rw [take_snocB s k h, keyT_snoc]
theorem i64_xor_32 (a b : Nat) (ha : a < 4294967296) (hb : b < 256) : bits .xor .i64 (a : Int) (b : Int) = ((a ^^^ b : Nat) : Int) := by
  have hx : a ^^^ b < 2 ^ 32 := Nat.xor_lt_two_pow (by omega) (by omega)
  show IntKind.i64.wrap ((BitVec.ofInt 64 (a : Int) ^^^ BitVec.ofInt 64 (b : Int)).toNat : Int) = _
  rw [BitVec.toNat_xor, ofInt_u64 a (by omega), ofInt_u64 b (by omega), IntKind.wrap_i64]
  omega
theorem val_i64 {a b : Int} (h : a = b) : Value.int .i64 a = Value.int .i64 b := by rw [h]
theorem val_u32 {a b : Int} (h : a = b) : Value.int .u32 a = Value.int .u32 b := by rw [h]
set_option maxHeartbeats 800000 in
theorem l02Text_any (s : ByteArray) (w : World) (hs : s.size ≤ 9223372036854775807) :
    Calls Tryd.prog 16 #[.string s] w fun e w' => e = .returned (.int .i64 (keyT s.data.toList)) ∧ w = w' := by
  go_enter Tryd.func16, Tryd.ntmps16
  go_wp2
  go_loop [3, 4] (fun h i => ∃ k z : Nat, k ≤ s.size ∧ i = .int .i64 k ∧ h = .int .i64 z ∧ z < 4294967296 ∧ Hid (keyT (s.data.toList.take k) = z)) (fun _ i => s.size - (intOf i).toNat)
  case atStart => exact ⟨0, 2166136261, Nat.zero_le _, rfl, rfl, by omega, by show _ = _; rw [List.take_zero, keyT_nil]⟩
  case round =>
    obtain ⟨k, z, hk, rfl, rfl, hz, hh⟩ := hrel
    by_cases hlt : k < s.size
    · have hsn := keyT_take s k hlt
      rw [hh.out] at hsn
      have HSN := hid hsn
      have hb : s[k].toNat < 256 := s[k].toNat_lt
      have HXO := hid (i64_xor_32 z s[k].toNat hz hb)
      clear hsn
      go_wp2
      refine ⟨⟨k + 1, keyT (s.data.toList.take (k + 1)), by omega, by go_num, ?_, keyT_lt _, rfl⟩, by simp [intOf]; omega⟩
      refine val_i64 ?_
      have hxl : z ^^^ s[k].toNat < 2 ^ 32 := Nat.xor_lt_two_pow (by omega) (by omega)
      rw [HSN.out, HXO.out]
      obtain ⟨q, hq⟩ : ∃ q, q = z ^^^ s[k].toNat := ⟨_, rfl⟩
      rw [← hq] at hxl ⊢
      rw [IntWalk.wrap64_in _ ⟨by omega, by omega⟩, Int.tmod_eq_emod_of_nonneg (by omega)]
      omega
    · have he := hh.out
      rw [List.take_of_length_le (by simp; omega)] at he
      have HE := hid he
      clear he
      go_wp2
      go_ret
      exact ⟨ret_int (by rw [HE.out]), rfl⟩
set_option maxHeartbeats 800000 in
theorem KeyOfText_any (s : ByteArray) (w : World) (hs : s.size ≤ 9223372036854775807) :
    Calls Tryd.prog 14 #[.string s] w fun e w' => e = .returned (.int .i64 (keyT s.data.toList)) ∧ w = w' := by
  go_enter Tryd.func14, Tryd.ntmps14
  go_wp2
  go_loop [3, 7] (fun h i => ∃ k z : Nat, k ≤ s.size ∧ i = .int .i64 k ∧ h = .int .u32 z ∧ z < 4294967296 ∧ Hid (keyT (s.data.toList.take k) = z)) (fun _ i => s.size - (intOf i).toNat)
  case atStart => exact ⟨0, 2166136261, Nat.zero_le _, rfl, rfl, by omega, by show _ = _; rw [List.take_zero, keyT_nil]⟩
  case round =>
    obtain ⟨k, z, hk, rfl, rfl, hz, hh⟩ := hrel
    by_cases hlt : k < s.size
    · have hsn := keyT_take s k hlt
      rw [hh.out] at hsn
      have HSN := hid hsn
      have hb : s[k].toNat < 256 := s[k].toNat_lt
      have HXO := hid (u32_xor_nat z s[k].toNat hz (by omega))
      clear hsn
      go_wp2
      refine ⟨⟨k + 1, keyT (s.data.toList.take (k + 1)), by omega, by go_num, ?_, keyT_lt _, rfl⟩, by simp [intOf]; omega⟩
      refine val_u32 ?_
      rw [HSN.out, HXO.out]
      omega
    · have he := hh.out
      rw [List.take_of_length_le (by simp; omega)] at he
      have HE := hid he
      clear he
      go_wp2
      go_ret
      exact ⟨ret_int (by rw [HE.out]), rfl⟩
/-- A slice of the call's own and yes, or none and no. -/
def RetK (w : World) (p : List Int × Bool) (e : Ending) (w' : World) : Prop :=
  ∃ A c, e = .returned (.tuple #[.slice A p.1.length c, .bool p.2]) ∧ OwnS (Value.int .i64) w' w.heap.size 2 A p.1 ∧ Below w.heap.size w w'
set_option maxRecDepth 100000 in
set_option maxHeartbeats 1600000 in
theorem sKeysOfText_any (s : ByteArray) (w : World) (hs : s.size ≤ 1048576) :
    Calls Tryd.prog 5 #[.string s] w (RetK w (pKeysOfText s.data.toList)) := by
  have hls : s.data.toList.length = s.size := by simp
  go_enter Tryd.func5, Tryd.ntmps5
  go_wp2
  go_loopw [4, 5, 6] (fun v f i wr => ∃ (k g : Nat) (xs : List Int), i = .int .i64 k ∧ f = .int .i64 g ∧ k ≤ s.size + 1 ∧ g ≤ k ∧ xs.length ≤ k ∧ Hid (OwnV wr w.heap.size v xs) ∧ Hid (Below w.heap.size w wr) ∧ Hid (KRel s.data.toList k g xs)) (fun _ _ i _ => s.size + 1 - (intOf i).toNat)
  case atStart => exact ⟨0, 0, [], rfl, rfl, Nat.zero_le _, Nat.le_refl _, Nat.le_refl _, OwnV.made w (Nat.le_refl _), (Below.refl _ _).alloc (Nat.le_refl _) _, KRel.start _⟩
  case round =>
    obtain ⟨k, g, xs, rfl, rfl, hk, hg, hxk, hO, hW, hR⟩ := hrel
    by_cases hle : k ≤ s.size
    · have hil : (k : Int) ≤ (s.size : Int) := by omega
      have hx7 : xs.length ≤ 1048577 := by omega
      by_cases hgo : ∃ h : k < s.size, s[k] ≠ 32
      · obtain ⟨hlt, hne⟩ := hgo
        have hi : (k : Int) < (s.size : Int) := by omega
        have hR2 : Hid (KRel s.data.toList (k + 1) g xs) := hR.out.next (c := s[k]) (by rw [List.getElem?_eq_getElem (by rw [hls]; exact hlt)]; rfl) hne
        have hb : ((s[k].toNat : Int) != 32) = true := by
          rw [bne_iff_ne]
          intro e
          exact hne (UInt8.toNat_inj.1 (by have : s[k].toNat = 32 := by omega
                                           rw [this]; rfl))
        clear hne hR
        go_wp2
        exact ⟨⟨k + 1, g, xs, by go_num, rfl, by omega, by omega, by omega, hO, hW, hR2⟩, by simp [intOf]; omega⟩
      · have hR2 := hid (hR.out.stop (by rw [hls]; exact hle) (fun h => by
          rw [hls] at h
          rw [List.getElem?_eq_getElem (by rw [hls]; exact h)]
          have : s[k] = 32 := Classical.byContradiction fun hne => hgo ⟨h, hne⟩
          exact congrArg some this))
        have hstop : (∃ h : k < s.size, s[k] = 32) ∨ k = s.size := by
          rcases Nat.lt_or_ge k s.size with h | h
          · exact .inl ⟨h, Classical.byContradiction fun hne => hgo ⟨h, hne⟩⟩
          · exact .inr (by omega)
        clear hgo hR
        have hpl : Hid ((s.extract g k).data.toList = (s.data.toList.drop g).take (k - g)) := by
          show _ = _
          rw [Lib.extract_data]
        by_cases hgk : g < k
        · have hgi : (g : Int) < (k : Int) := by omega
          have hpne : (s.data.toList.drop g).take (k - g) ≠ [] := by
            intro e
            have := congrArg List.length e
            simp at this
            omega
          have hR3 : Hid (KRel s.data.toList (k + 1) (k + 1) (xs ++ [(keyT (s.extract g k).data.toList : Int)])) := by
            show KRel _ _ _ _
            rw [hpl.out, ← keysW_one hpne]
            exact hR2.out
          have CT : Hid (∀ w, Calls Tryd.prog 16 #[.string (s.extract g k)] w fun e w' => e = .returned (.int .i64 (keyT (s.extract g k).data.toList)) ∧ w = w') := fun w => l02Text_any _ w (by rw [ByteArray.size_extract]; omega)
          obtain ⟨z, hz⟩ : ∃ z, z = keyT (s.extract g k).data.toList := ⟨_, rfl⟩
          rw [← hz] at CT hR3
          clear hz hpl hR2 hpne
          have hszW := hW.out.size
          rcases hstop with ⟨hlt, heq⟩ | rfl
          · have hi : (k : Int) < (s.size : Int) := by omega
            have hb : ((s[k].toNat : Int) != 32) = false := by
              rw [bne_eq_false_iff_eq, heq]; rfl
            clear heq
            go_wp2_with (first | (go_at_call 16; refine (CT.out _).mono ?_; rintro e w' ⟨rfl, rfl⟩) | (at_builtin; refine app_int rfl _ _ rfl (z : Int) hO.out hW.out rfl rfl hx7 hszW ?_))
            intro v' w' O3 W3 hg3 KP
            clear KP hg3 hO hW
            go_wp2
            exact ⟨⟨k + 1, k + 1, _, by go_num, by go_num, by omega, by omega, by simp; omega, O3, W3, hR3⟩, by simp [intOf] <;> omega⟩
          · have hi : ¬ (s.size : Int) < (s.size : Int) := by omega
            go_wp2_with (first | (go_at_call 16; refine (CT.out _).mono ?_; rintro e w' ⟨rfl, rfl⟩) | (at_builtin; refine app_int rfl _ _ rfl (z : Int) hO.out hW.out rfl rfl hx7 hszW ?_))
            intro v' w' O3 W3 hg3 KP
            clear KP hg3 hO hW
            go_wp2
            exact ⟨⟨s.size + 1, s.size + 1, _, by go_num, by go_num, by omega, by omega, by simp; omega, O3, W3, hR3⟩, by simp [intOf] <;> omega⟩
        · have hgi : ¬ (g : Int) < (k : Int) := by omega
          obtain rfl : g = k := by omega
          have hR3 : Hid (KRel s.data.toList (g + 1) (g + 1) xs) := by
            have := hR2.out
            rw [Nat.sub_self, List.take_zero, keysW_none, List.append_nil] at this
            exact this
          clear hpl hR2
          rcases hstop with ⟨hlt, heq⟩ | rfl
          · have hi : (g : Int) < (s.size : Int) := by omega
            have hb : ((s[g].toNat : Int) != 32) = false := by
              rw [bne_eq_false_iff_eq, heq]; rfl
            clear heq
            go_wp2
            exact ⟨⟨g + 1, g + 1, _, by go_num, by go_num, by omega, by omega, by omega, hO, hW, hR3⟩, by simp [intOf] <;> omega⟩
          · have hi : ¬ (s.size : Int) < (s.size : Int) := by omega
            go_wp2
            exact ⟨⟨s.size + 1, s.size + 1, _, by go_num, by go_num, by omega, by omega, by omega, hO, hW, hR3⟩, by simp [intOf] <;> omega⟩
    · have hil : ¬ (k : Int) ≤ (s.size : Int) := by omega
      have hd := hR.out.done (by rw [hls]; exact hle)
      have HD := hid hd
      clear hd hR
      obtain ⟨A, c, rfl, hos⟩ := hO.out.ownS
      have HOS := hid hos
      have CK : Hid (∀ w', RdL (Value.int .i64) w' A xs → Calls Tryd.prog 17 #[.slice A xs.length c] w' fun e w'' => e = .returned (.bool (decide (xs.length ≤ 256))) ∧ w' = w'') := fun w' h => by
        have := l02Keys_q A c xs w' h
        have e : keysQ xs = decide (xs.length ≤ 256) := by
          unfold keysQ
          have ha : allB xs 0 4294967295 = true := by
            unfold allB
            rw [List.all_eq_true]
            intro y hy
            rw [← HD.out] at hy
            exact inB_iff.2 (keysW_bd _ y hy)
          rw [ha, Bool.and_true]
          exact decide_eq_decide.2 (by omega)
        rw [e] at this
        exact this
      clear hos hO
      by_cases h256 : xs.length ≤ 256
      · have hd : decide (xs.length ≤ 256) = true := decide_eq_true h256
        rw [hd] at CK
        clear hd
        go_wp2_with (go_at_call 17; refine (CK.out _ HOS.out.rd).mono ?_; rintro e w' ⟨rfl, rfl⟩)
        go_ret2
        have e : pKeysOfText s.data.toList = (xs, true) := by unfold pKeysOfText; rw [HD.out, if_pos h256]
        rw [e]
        exact ⟨A, c, rfl, HOS.out, hW.out⟩
      · have hd : decide (xs.length ≤ 256) = false := decide_eq_false h256
        rw [hd] at CK
        clear hd
        go_wp2_with (go_at_call 17; refine (CK.out _ HOS.out.rd).mono ?_; rintro e w' ⟨rfl, rfl⟩)
        go_ret2
        have e : pKeysOfText s.data.toList = ([], false) := by unfold pKeysOfText; rw [HD.out, if_neg h256]
        rw [e]
        exact ⟨none, 0, rfl, OwnS.nil, hW.out⟩
def laysSplit_ren : Go.Shelf.Ren := ⟨fun | 146 => 18 | 221 => 23 | 268 => 26 | 138 => 27 | 143 => 28 | 195 => 29 | 197 => 30 | 218 => 31 | 219 => 32 | 260 => 33 | 217 => 34 | 225 => 35 | 224 => 36 | 267 => 37 | 266 => 38 | 314 => 39 | n => n, fun | 9 => 9 | 31 => 37 | 3 => 3 | 4 => 4 | 0 => 0 | 105 => 47 | 21 => 21 | 5 => 5 | 46 => 31 | 119 => 51 | 139 => 54 | 138 => 53 | 146 => 55 | 51 => 40 | n => n, fun | 1 => 1 | 3 => 2 | 4 => 3 | n => n⟩
theorem laysSplit : Go.Proofs.LaysM.n146 Tryd.prog laysSplit_ren := {
  mixed := by kernel_rfl,
  f138 := Tryd.func27.trans (congrArg some (by kernel_rfl)),
  f143 := Tryd.func28.trans (congrArg some (by kernel_rfl)),
  f146 := Tryd.func18.trans (congrArg some (by kernel_rfl)),
  f195 := Tryd.func29.trans (congrArg some (by kernel_rfl)),
  f197 := Tryd.func30.trans (congrArg some (by kernel_rfl)),
  f217 := Tryd.func34.trans (congrArg some (by kernel_rfl)),
  f218 := Tryd.func31.trans (congrArg some (by kernel_rfl)),
  f219 := Tryd.func32.trans (congrArg some (by kernel_rfl)),
  f221 := Tryd.func23.trans (congrArg some (by kernel_rfl)),
  f224 := Tryd.func36.trans (congrArg some (by kernel_rfl)),
  f225 := Tryd.func35.trans (congrArg some (by kernel_rfl)),
  f260 := Tryd.func33.trans (congrArg some (by kernel_rfl)),
  f266 := Tryd.func38.trans (congrArg some (by kernel_rfl)),
  f267 := Tryd.func37.trans (congrArg some (by kernel_rfl)),
  f268 := Tryd.func26.trans (congrArg some (by kernel_rfl)),
  f314 := Tryd.func39.trans (congrArg some (by kernel_rfl)),
  t0 := Tryd.underlying0,
  a0 := Tryd.isAgg0,
  z0 := Tryd.sizeOf0,
  v0 := Tryd.zeroValue0,
  t3 := Tryd.underlying3,
  a3 := Tryd.isAgg3,
  z3 := Tryd.sizeOf3,
  v3 := Tryd.zeroValue3,
  t4 := Tryd.underlying4,
  a4 := Tryd.isAgg4,
  z4 := Tryd.sizeOf4,
  v4 := Tryd.zeroValue4,
  t5 := Tryd.underlying5,
  a5 := Tryd.isAgg5,
  z5 := Tryd.sizeOf5,
  v5 := Tryd.zeroValue5,
  t9 := Tryd.underlying9,
  a9 := Tryd.isAgg9,
  z9 := Tryd.sizeOf9,
  v9 := Tryd.zeroValue9,
  t21 := Tryd.underlying21,
  a21 := Tryd.isAgg21,
  z21 := Tryd.sizeOf21,
  v21 := Tryd.zeroValue21,
  t31 := Tryd.underlying37,
  a31 := Tryd.isAgg37,
  z31 := Tryd.sizeOf37,
  v31 := Tryd.zeroValue37,
  t46 := Tryd.underlying31,
  a46 := Tryd.isAgg31,
  z46 := Tryd.sizeOf31,
  v46 := Tryd.zeroValue31,
  t51 := Tryd.underlying40,
  a51 := Tryd.isAgg40,
  z51 := Tryd.sizeOf40,
  v51 := Tryd.zeroValue40,
  t105 := Tryd.underlying47,
  a105 := Tryd.isAgg47,
  z105 := Tryd.sizeOf47,
  v105 := Tryd.zeroValue47,
  t119 := Tryd.underlying51,
  a119 := Tryd.isAgg51,
  z119 := Tryd.sizeOf51,
  t138 := Tryd.underlying53,
  a138 := Tryd.isAgg53,
  z138 := Tryd.sizeOf53,
  v138 := Tryd.zeroValue53,
  t139 := Tryd.underlying54,
  a139 := Tryd.isAgg54,
  z139 := Tryd.sizeOf54,
  v139 := Tryd.zeroValue54,
  t146 := Tryd.underlying55,
  a146 := Tryd.isAgg55,
  z146 := Tryd.sizeOf55,
  v146 := Tryd.zeroValue55,
  g1 := by kernel_rfl,
  g3 := by kernel_rfl,
  g4 := by kernel_rfl,
  i0 := by kernel_rfl,
  i3 := by kernel_rfl,
  i4 := by kernel_rfl,
  i5 := by kernel_rfl,
  i9 := by kernel_rfl,
  i21 := by kernel_rfl,
  i31 := by kernel_rfl,
  i46 := by kernel_rfl,
  i51 := by kernel_rfl,
  i105 := by kernel_rfl,
  i138 := by kernel_rfl,
  i139 := by kernel_rfl,
  i146 := by kernel_rfl,
  m1 := by kernel_rfl,
  s1_3 := fun w h => Go.Proofs.cell_of_shapedOpen_int (zero := #[.int .i64 0]) (t := 3) h (of_decide_eq_true (by kernel_rfl)) (by kernel_rfl) rfl (by kernel_rfl) (by kernel_rfl) Tryd.underlying3,
  m3 := by kernel_rfl,
  m4 := by kernel_rfl }
theorem Split_any (s : ByteArray) (m : Int) (w : World) (hs : s.size ≤ 1048576) (hm : w.cell? ⟨1, 0, none⟩ = some (.int .i64 m)) :
    Calls Tryd.prog 18 #[.string s, .string ⟨#[32]⟩] w fun e w' => ∃ PB : List ByteArray, e = .returned (.slice (some ⟨w.heap.size, 0, none⟩) PB.length PB.length) ∧ PB.map (·.data.toList) = pcs s.data.toList ∧ w' = w.alloc (.cells (PB.map Value.string).toArray 9) := by
  refine (Go.Proofs.Any.strings_Split { laysSplit with } laysSplit.i9 s ⟨#[32]⟩ m w (by omega) hm (by decide)).mono ?_
  rintro e w' ⟨rfl, rfl⟩
  have hl := Lib.splitB_all ⟨#[32]⟩ (by decide) 0 (Lib.countB s ⟨#[32]⟩) s rfl
  refine ⟨Lib.splitB ⟨#[32]⟩ 0 (Lib.countB s ⟨#[32]⟩) s, by rw [hl], ?_, rfl⟩
  rw [Lib.splitB_data]
  exact split_pcs _ _ (Nat.le_refl _)
/-- An append of one element; other blocks stand. -/
theorem app_intK {ops : Array Oper} {rest : List Oper} {o : Oper} {a : Act} {Q : Exit → Act → World → Prop} (hgd : o.guard = none) (s x : Operand)
    (ho : o.op = .call { callee := .builtin .append, args := #[s, x], argTypes := #[22, 22] })
    (y : Int) {w0 wr : World} {B : Nat} {v : Value} {xs : List Int} (hown : OwnV wr B v xs) (hB : Below B w0 wr) (hs : a.eval s = v) (hx : a.eval x = .slice (some ⟨wr.heap.size, 0, none⟩) 1 1)
    (hl : xs.length ≤ 1048577) (hsz : B ≤ wr.heap.size)
    (h : ∀ v' w', Hid (OwnV w' B v' (xs ++ [y])) → Hid (Below B w0 w') → Hid (KeepB wr v w' v') → wpList Tryd.prog ops Q rest (a.put o.dst v') w') :
    wpList Tryd.prog ops Q (o :: rest) a (wr.alloc (.cells #[.int .i64 y] 2)) := by
  obtain ⟨i0, hi0, hz0, hz1, hz2⟩ := info_parts Tryd.infoI
  refine wpList_append_own_at (wr.alloc (.cells #[.int .i64 y] 2)) hgd s x 22 ho B 2 i0 (.int .i64 0) 1 8 Tryd.underlying22 hi0 hz0 hz1 hz2 rfl (by decide) v xs.length _ hs (World.ownsRow.alloc hown _) ⟨wr.heap.size, 0, none⟩ 1 1 [.int .i64 y] hx rfl (cell_one_new _ _ _) ?_ ?_ ?_ ?_ ?_
  · intro u hu; simp at hu; subst hu; rfl
  · simp only [maxLen]; omega
  · omega
  · simp; omega
  · intro v' w1 hown' hgrow _ hat
    refine h v' w1 ?_ ?_ ?_
    · have e : (xs ++ [y]).length = xs.length + 1 := by simp
      unfold OwnV
      rw [e, List.map_append]; exact hown'
    · exact (hB.alloc hsz _).grown hgrow (by simp; omega) (fun g hg => (World.ownsRow.lt (World.ownsRow.alloc hown (.cells #[.int .i64 y] 2)) g hg).1)
    · intro g2 t2 cs2 hb2 hne2
      have hb3 : Blk (wr.alloc (.cells #[.int .i64 y] 2)) g2 t2 cs2 := hb2.alloc _
      refine ⟨(hgrow.block g2 hb3.lt (fun e => hne2 e.symm)).trans hb3, fun e => ?_⟩
      rcases hat with hat | hat
      · exact hne2 (hat ▸ e)
      · rw [hat] at e
        injection e with e
        have := hb2.lt
        simp at e
        omega
theorem PB_snoc {PB : List ByteArray} {k : Nat} {q : ByteArray} (h : PB[k]? = some q) : (PB.take (k + 1)).map (·.data.toList) = (PB.take k).map (·.data.toList) ++ [q.data.toList] := by
  rw [List.take_add_one, h]
  simp
set_option maxRecDepth 100000 in
set_option maxHeartbeats 1600000 in
theorem iKeysOfText_any (s : ByteArray) (m : Int) (w : World) (hs : s.size ≤ 1048576) (hm : w.cell? ⟨1, 0, none⟩ = some (.int .i64 m)) :
    Calls Tryd.prog 6 #[.string s] w (RetK w (pKeysOfText s.data.toList)) := by
  have hls : s.data.toList.length = s.size := by simp
  have hlt1 : 1 < w.heap.size := by
    have := World.block_lt_of_cell? w _ hm
    simpa using this
  have CS := hid (Split_any s m (w.alloc (.cells #[] 2)) hs (by rw [World.cell?_alloc_old _ _ _ (by show 1 ≠ _; omega)]; exact hm))
  clear hm
  go_enter Tryd.func6, Tryd.ntmps6
  go_wp2_with fail
  refine CS.out.mono ?_
  rintro e w1 ⟨PB, rfl, hpb, hw1⟩
  obtain ⟨g, hg⟩ : ∃ g, g = (w.alloc (.cells #[] 2)).heap.size := ⟨_, rfl⟩
  have hg1 : w.heap.size < g := by rw [hg]; simp
  have B1 : Hid (Blk w1 g 9 (PB.map Value.string)) := by rw [hw1, hg]; exact Blk.new _ _ _
  have O1 : Hid (OwnV w1 w.heap.size (.slice (some ⟨w.heap.size, 0, none⟩) 0 0) []) := by rw [hw1]; exact (OwnV.made w (Nat.le_refl _)).below ((Below.refl _ _).alloc (Nat.le_refl _) _)
  have S1 : Hid (Below w.heap.size w w1) := by rw [hw1]; exact ((Below.refl _ _).alloc (Nat.le_refl _) _).alloc (by simp) _
  have hpl : PB.length ≤ s.size + 1 := by
    have h1 := congrArg List.length hpb
    rw [List.length_map, pcs_length] at h1
    have := List.count_le_length (a := (32 : UInt8)) (l := s.data.toList)
    omega
  have HPB := hid hpb
  rw [← hg]
  clear hg hw1 hpb CS
  go_wp2
  go_loopw [4, 11] (fun v i wr => ∃ (k : Nat) (xs : List Int), i = .int .i64 k ∧ k ≤ PB.length ∧ xs.length ≤ 256 ∧ Hid (OwnV wr w.heap.size v xs) ∧ Hid (v.ownBlock ≠ some g) ∧ Hid (Below w.heap.size w wr) ∧ Hid (Blk wr g 9 (PB.map Value.string)) ∧ Hid (keysW ((PB.take k).map (·.data.toList)) = xs)) (fun _ i _ => PB.length - (intOf i).toNat)
  case atStart => exact ⟨0, [], rfl, Nat.zero_le _, by simp, O1, by show _ ≠ _; intro e; injection e with e; have e' : w.heap.size = g := e; omega, S1, B1, by show _ = _; rw [List.take_zero]; rfl⟩
  case round =>
    obtain ⟨k, xs, rfl, hk, hx, hO, hne, hW, hB, hK⟩ := hrel
    clear O1 S1 B1
    by_cases hlt : k < PB.length
    · have hi : (k : Int) < (PB.length : Int) := by omega
      obtain ⟨q, hq⟩ : ∃ q, PB[k]? = some q := ⟨_, List.getElem?_eq_getElem hlt⟩
      have hcell : wr.cell? ⟨g, k, none⟩ = some (.string q) := hB.out.cell (by rw [List.getElem?_map, hq]; rfl)
      have hsn := PB_snoc hq
      have hql : q.size ≤ 1048577 := by
        have h1 : q.data.toList ∈ pcs s.data.toList := by rw [← HPB.out]; exact List.mem_map_of_mem (List.mem_of_getElem? hq)
        have h2 := pcs_mem_le _ _ h1
        have h3 : q.data.toList.length = q.size := by simp
        omega
      obtain ⟨A, c, rfl, hos⟩ := hO.out.ownS
      by_cases hqe : q.data.toList = []
      · have hK2 : Hid (keysW ((PB.take (k + 1)).map (·.data.toList)) = xs) := by
          show _ = _
          rw [hsn, keysW_snoc_no (by rw [hqe]; rfl)]; exact hK.out
        have f1 : q.toList = [] := by rw [ByteArray.toList_eq]; exact hqe
        clear hsn hq hqe hK hos HPB
        go_wp2
        exact ⟨⟨k + 1, xs, by go_num, by omega, hx, hO, hne, hW, hB, hK2⟩, by simp [intOf]; omega⟩
      · have hqe2 : q.data.toList.isEmpty = false := by cases h : q.data.toList <;> simp_all
        have hK2 : Hid (keysW ((PB.take (k + 1)).map (·.data.toList)) = xs ++ [(keyT q.data.toList : Int)]) := by
          show _ = _
          rw [hsn, keysW_snoc hqe2, hK.out]
        have f1 : q.toList ≠ [] := by rw [ByteArray.toList_eq]; exact hqe
        have f2 : q.toList.isEmpty = false := by rw [ByteArray.toList_eq]; exact hqe2
        have CT := hid (fun w => KeyOfText_any q w (by omega))
        obtain ⟨z, hz⟩ : ∃ z, z = keyT q.data.toList := ⟨_, rfl⟩
        rw [← hz] at CT hK2
        clear hsn hq hqe hqe2 hK hos hz
        by_cases h256 : xs.length = 256
        · have hb : ((xs.length : Int) == 256) = true := by rw [beq_iff_eq]; omega
          have hno : Hid (pKeysOfText s.data.toList = ([], false)) := by
            have h1 := keysW_take_le (PB.map (·.data.toList)) (k + 1)
            rw [← List.map_take, hK2.out, HPB.out, List.length_append] at h1
            have h2 : (keysW (pcs s.data.toList)) = keysT s.data.toList := rfl
            rw [h2] at h1
            show _ = _
            unfold pKeysOfText
            rw [if_neg (by simp at h1; omega)]
          clear HPB h256 hK2
          go_wp2
          go_ret2
          rw [hno.out]
          exact ⟨none, 0, rfl, OwnS.nil, hW.out⟩
        · have hb : ((xs.length : Int) == 256) = false := by rw [beq_eq_false_iff_ne]; omega
          have hszW := hW.out.size
          have hx7 : xs.length ≤ 1048577 := by omega
          have hx6 : xs.length + 1 ≤ 256 := by omega
          clear HPB h256
          go_wp2_with (first | (go_at_call 14; refine (CT.out _).mono ?_; rintro e w' ⟨rfl, rfl⟩) | (at_builtin; refine app_intK rfl _ _ rfl (z : Int) hO.out hW.out rfl rfl hx7 hszW ?_))
          intro v' w' O3 W3 KP
          obtain ⟨B3, hne3⟩ := KP.out g _ _ hB.out hne.out
          have HB3 := hid B3
          have HN3 := hid hne3
          clear KP hO hW hB hne B3 hne3
          go_wp2
          exact ⟨⟨k + 1, _, by go_num, by omega, by simp; omega, O3, HN3, W3, HB3, hK2⟩, by simp [intOf]; omega⟩
    · have hi : ¬ (k : Int) < (PB.length : Int) := by omega
      have hd := hK.out
      rw [List.take_of_length_le (by omega), HPB.out] at hd
      have e : Hid (pKeysOfText s.data.toList = (xs, true)) := by
        show _ = _
        have h2 : keysT s.data.toList = xs := hd
        unfold pKeysOfText
        rw [h2, if_pos hx]
      clear hd hK HPB
      obtain ⟨A, c, rfl, hos⟩ := hO.out.ownS
      have HOS := hid hos
      clear hos hO
      go_wp2
      go_ret2
      rw [e.out]
      exact ⟨A, c, rfl, HOS.out, hW.out⟩
end Go.Proofs.YtbodfepfapjikaaDoor
