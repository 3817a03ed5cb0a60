/-
  Joined and met sieves: reference and program, by contracts. Printed by gen_both.py.
-/
import Derived.Test.YtlcpchpodcchlaaJoinSieves
import Derived.Test.YtlcpchpodcchlaaPutSieve
import Derived.Deep.RegionLaw
namespace Go.Proofs.Ytlcpchpodcchlaa
open Go.RowKit
set_option linter.unusedVariables false


theorem fnJoinSieves_any (u v : Bool) (w : World) : Calls Try.prog 87 #[.bool u, .bool v] w fun e w' => e = .returned (.bool ((fun a b => a || b) u v)) ∧ w = w' := by
  cases u <;> cases v <;>
  · go_enter Try.func87, Try.ntmps87
    go_wp2
    go_ret
    exact ⟨rfl, rfl⟩
set_option maxRecDepth 100000 in
set_option maxHeartbeats 3200000 in
theorem bothJoinSieves_any (r s : Int) (A : Option Addr) (c : Nat) (x : List Bool) (r' s' : Int) (A' : Option Addr) (c' : Nat) (y : List Bool) (w : World) (hr : W64 r) (hs : W64 s) (hx : RdL Value.bool w A x) (hn : x.length ≤ 1048576) (hr' : W64 r') (hs' : W64 s') (hy : RdL Value.bool w A' y) (hn' : y.length ≤ 1048576) :
    Calls Try.prog 86 #[.agg #[.int .i64 r, .int .i64 s, .slice A x.length c], .agg #[.int .i64 r', .int .i64 s', .slice A' y.length c'], .func (.func 87) #[] #[]] w (RetSv w (pBoth (fun a b => a || b) r s x r' s' y)) := by
  have HX := hid hx
  have HY := hid hy
  clear hx hy
  obtain ⟨i0, hi0, hz0, hz1, hz2⟩ := info_parts Try.infoB
  have BA0 := hid (((Blk.new w 42 [.int .i64 r, .int .i64 s, .slice A x.length c]).alloc (.cells #[.int .i64 r', .int .i64 s', .slice A' y.length c'] 42)).alloc (.cells #[.int .i64 0, .int .i64 0, .slice none 0 0] 42))
  have BB0 := hid ((Blk.new2 w (.cells #[.int .i64 r, .int .i64 s, .slice A x.length c] 42) 42 [.int .i64 r', .int .i64 s', .slice A' y.length c']).alloc (.cells #[.int .i64 0, .int .i64 0, .slice none 0 0] 42))
  have BR0 := hid (Blk.new3 w (.cells #[.int .i64 r, .int .i64 s, .slice A x.length c] 42) (.cells #[.int .i64 r', .int .i64 s', .slice A' y.length c'] 42) 42 [.int .i64 0, .int .i64 0, .slice none 0 0])
  obtain ⟨k0, k1, k2⟩ := BA0.out.cells3
  obtain ⟨l0, l1, l2⟩ := BB0.out.cells3
  cases ha : vSieve r s x.length with
  | false =>
    rw [pBoth_no (by simp [alikeS, ha])]
    refine Calls.mono ?_ retSv_no
    go_enter Try.func86, Try.ntmps86
    go_wp2_with fail
    refine (iValidSieve_any r s A c x _ hr hs (HX.out.below (below_a3 _ _ _ _)) hn).mono ?_
    rintro e w1 ⟨rfl, hb⟩
    obtain ⟨d0, d1, d2⟩ := (BR0.out.below hb).cells3
    have f0 := (BR0.out.below hb).frozen 0
    have f1 := (BR0.out.below hb).frozen 1
    have f2 := (BR0.out.below hb).frozen 2
    have S1 := below_call (below_a3 _ _ _ _) hb
    clear hb k0 k1 k2 l0 l1 l2 BA0 BB0 BR0
    go_wp2
    refine bodyPost_ret (v := .tuple #[.agg #[.int .i64 0, .int .i64 0, .slice none 0 0], .bool false]) (by simp [results, Try.results86, go_sem, d0, d1, d2]) rfl ⟨rfl, ?_⟩
    exact ((S1.out.setCell (by simp <;> omega) _).setCell (by simp <;> omega) _).setCell (by simp <;> omega) _
  | true =>
  have key : ∀ b u v z : Bool, vSieve r' s' y.length = b → (r == r') = u → (s == s') = v → ((x.length : Int) == (y.length : Int)) = z → (b && u && v && z) = false →
      Calls Try.prog 86 #[.agg #[.int .i64 r, .int .i64 s, .slice A x.length c], .agg #[.int .i64 r', .int .i64 s', .slice A' y.length c'], .func (.func 87) #[] #[]] w (RetSv w ((0, 0, []), false)) := by
    intro b u v z hb0 hu hv hz hno
    have hu' : (r != r') = !u := by rw [← hu]; rfl
    have hv' : (s != s') = !v := by rw [← hv]; rfl
    have hz' : ((x.length : Int) != (y.length : Int)) = !z := by rw [← hz]; rfl
    refine Calls.mono ?_ retSv_no
    cases b
    case' true =>
      cases u
      case' true =>
        cases v
        case' true => cases z
    all_goals
      try simp only [Bool.not_false, Bool.not_true] at hu' hv' hz'
      first
      | (exfalso; revert hno; decide)
      | (go_enter Try.func86, Try.ntmps86
         go_wp2_with fail
         refine (iValidSieve_any r s A c x _ hr hs (HX.out.below (below_a3 _ _ _ _)) hn).mono ?_
         rintro e w1 ⟨rfl, hb⟩
         have BA1 := hid (BA0.out.below hb)
         have BB1 := hid (BB0.out.below hb)
         have BR1 := hid (BR0.out.below hb)
         have S1 := below_call (below_a3 _ _ _ _) hb
         clear hb k0 k1 k2 l0 l1 l2 BA0 BB0 BR0
         obtain ⟨k0, k1, k2⟩ := BA1.out.cells3
         obtain ⟨l0, l1, l2⟩ := BB1.out.cells3
         go_wp2_with fail
         refine (iValidSieve_any r' s' A' c' y _ hr' hs' (HY.out.below S1.out) hn').mono ?_
         rintro e w2 ⟨rfl, hb⟩
         clear k0 k1 k2 l0 l1 l2
         obtain ⟨k0, k1, k2⟩ := (BA1.out.below hb).cells3
         obtain ⟨l0, l1, l2⟩ := (BB1.out.below hb).cells3
         obtain ⟨d0, d1, d2⟩ := (BR1.out.below hb).cells3
         have f0 := (BR1.out.below hb).frozen 0
         have f1 := (BR1.out.below hb).frozen 1
         have f2 := (BR1.out.below hb).frozen 2
         have S2 := hid (S1.out.trans (hb.mono S1.out.size))
         clear hb hno hu hv hz
         go_wp2
         refine bodyPost_ret (v := .tuple #[.agg #[.int .i64 0, .int .i64 0, .slice none 0 0], .bool false]) (by simp [results, Try.results86, go_sem, d0, d1, d2]) rfl ⟨rfl, ?_⟩
         exact ((S2.out.setCell (by simp <;> omega) _).setCell (by simp <;> omega) _).setCell (by simp <;> omega) _)
  cases hal : alikeS r s x.length r' s' y.length with
  | false =>
    rw [pBoth_no hal]
    refine key _ _ _ _ rfl rfl rfl rfl ?_
    simp only [alikeS, ha, Bool.true_and] at hal
    exact hal
  | true =>
  obtain ⟨hv, hv', rfl, rfl, hxy⟩ := alikeS_iff hal
  have HXY := hid hxy
  obtain ⟨⟨hr1, hr2⟩, ⟨hs1, hs2⟩, hn1, hn2⟩ := vSieve_iff hv
  have hxl1 : x.length ≤ y.length := by omega
  have hxl2 : y.length ≤ x.length := by omega
  have tz : ((x.length : Int) != (y.length : Int)) = false := by simp; omega
  have HV' := hid hv'
  rw [pBoth_yes hal]
  clear hxy hal key hv'
  go_enter Try.func86, Try.ntmps86
  go_wp2_with fail
  refine (iValidSieve_any r s A c x _ hr hs (HX.out.below (below_a3 _ _ _ _)) hn).mono ?_
  rintro e w1 ⟨rfl, hb⟩
  have BA1 := hid (BA0.out.below hb)
  have BB1 := hid (BB0.out.below hb)
  have BR1 := hid (BR0.out.below hb)
  have S1 := below_call (below_a3 _ _ _ _) hb
  have hl1 : w.heap.size + 3 ≤ w1.heap.size := by have := hb.size; simp at this; omega
  clear hb k0 k1 k2 l0 l1 l2 BA0 BB0 BR0
  obtain ⟨k0, k1, k2⟩ := BA1.out.cells3
  obtain ⟨l0, l1, l2⟩ := BB1.out.cells3
  go_wp2_with fail
  refine (iValidSieve_any r s A' c' y _ hr' hs' (HY.out.below S1.out) hn').mono ?_
  rw [HV'.out]
  rintro e w2 ⟨rfl, hb⟩
  clear k0 k1 k2 l0 l1 l2
  have BA2 := hid (BA1.out.below hb)
  have BB2 := hid (BB1.out.below hb)
  have BR2 := hid (BR1.out.below hb)
  have S2 := hid (S1.out.trans (hb.mono S1.out.size))
  have hl2 : w.heap.size + 3 ≤ w2.heap.size := by have := hb.size; omega
  have HX2 := hid (HX.out.below S2.out)
  have HY2 := hid (HY.out.below S2.out)
  clear hb BA1 BB1 BR1 hv hr hs hr' hs' ha
  obtain ⟨k0, k1, k2⟩ := BA2.out.cells3
  obtain ⟨l0, l1, l2⟩ := BB2.out.cells3
  have na : w.heap.size < w2.heap.size := by omega
  have nb : w.heap.size + 1 < w2.heap.size := by omega
  go_wp2
  go_loopw [51] (fun i wr => ∃ k : Nat, k ≤ x.length ∧ i = .int .i64 k ∧ ∃ v, Hid (wr.ownsRow (w2.heap.size + 1) 4 1 v k ((List.zipWith (fun a b => a || b) (x.take k) (y.take k)).map Value.bool)) ∧ Hid (Blk wr w2.heap.size 42 [.int .i64 r, .int .i64 s, v]) ∧ Hid (Below w2.heap.size w2 wr)) (fun i _ => x.length - (intOf i).toNat)
  case atStart => exact ⟨0, Nat.zero_le _, rfl, _, ⟨rfl, .inl ⟨rfl, rfl⟩⟩, Blk.new _ _ _, below_a1 _ _⟩
  case round =>
    obtain ⟨k, hkr, rfl, v, hown, hq, hW⟩ := hrel
    obtain ⟨q0, q1, q2⟩ := hq.out.cells3
    clear k0 k1 k2 l0 l1 l2
    obtain ⟨l0, l1, l2⟩ := (BB2.out.below hW.out).cells3
    by_cases hlt : k < x.length
    · have hi : (k : Int) < (x.length : Int) := by omega
      have hiy : (k : Int) < (y.length : Int) := by omega
      obtain ⟨bx, ox, u, hA, hcx0, hxk⟩ := HX2.out.at_ hlt
      obtain ⟨by', oy, vv, hA', hcy0, hyk⟩ := HY2.out.at_ (k := k) (by omega)
      subst hA hA'
      have hbx := World.block_lt_of_cell? w2 _ hcx0
      have hby := World.block_lt_of_cell? w2 _ hcy0
      have hcx := (hW.out.cell (p := ⟨bx, ox + k, none⟩) hbx).trans hcx0
      have hcy := (hW.out.cell (p := ⟨by', oy + k, none⟩) hby).trans hcy0
      have hlb : w2.heap.size < wr.heap.size := hq.out.lt
      have hag : ∀ b, b ≤ w2.heap.size → some b ≠ v.ownBlock := fun b hb e => by have := (hown.out.lt _ e.symm).1; omega
      have hag1 := hag w2.heap.size (by omega)
      have hag2 := hag (w.heap.size + 1) (by omega)
      have hag3 := hag by' (by simp at hby; omega)
      have hz := zip_take (f := (fun a b => a || b)) hxk hyk
      have hby2 : by' < w2.heap.size := hby
      have hby3 : by' ≠ w2.heap.size := by omega
      have hby4 : w2.heap.size ≠ by' := by omega
      have nb' : w.heap.size + 1 ≠ w2.heap.size := by omega
      have nb2 : w2.heap.size ≠ w.heap.size + 1 := by omega
      clear hcx0 hcy0 hbx hby l0 l1 q0 q1
      go_wp2
      go_region_law (first
          | (refine step_append_lies _ (by rfl) _ _ _ (by rfl) (w2.heap.size + 1) 4 i0 _ 1 1 Try.underlying35 hi0 hz0 hz1 hz2 rfl (by omega) _ _ _ (by rfl) ((hown.out.alloc _).drew) ⟨wr.heap.size, 0, none⟩ 1 1 [.bool (u || vv)] (by rfl) (by rfl) (World.news_of_block (cs := #[.bool (u || vv)]) (t := 4) (fr := (0, 0)) (heap_alloc_new wr _)) (by simp [Value.oneCell']) (by omega) (by simp only [maxLen]; omega) (by omega) (by simp; omega) (wr.heap.size + 1) (by simp) ?_
             intro gg cap w3 hown1 hgrow hat hlt'
             have W3 : Hid (Below w2.heap.size w2 w3) := ((hW.out.alloc (by omega) _).drew).grown hgrow (by simp; omega) (fun g hg => by have := (hown.out.lt g hg).1; omega)
             have Q3 : Hid (Blk w3 w2.heap.size 42 [.int .i64 r, .int .i64 s, v]) := (hgrow.block w2.heap.size (by simp; omega) hag1).trans ((hq.out.alloc _))
             obtain ⟨z0, z1, z2⟩ := Q3.out.cells3
             have g2 := Q3.out.frozen 2)
          | (go_simp
             go_at_call 87
             refine (fnJoinSieves_any _ _ _).mono ?_
             rintro e w' ⟨rfl, rfl⟩))
      all_goals
        have hmm : (List.zipWith (fun a b => a || b) (x.take k) (y.take k)).map Value.bool ++ [Value.bool (u || vv)] = (List.zipWith (fun a b => a || b) (x.take (k + 1)) (y.take (k + 1))).map Value.bool := by rw [← hz]; simp
        rw [hmm] at hown1
        have O1 := hid hown1
        clear hown1 hgrow hat hlt' hmm hz hag hag1 hag2 hag3
        go_wp2
        have hgg := (O1.out.lt gg rfl).1
        exact ⟨⟨k + 1, by omega, by go_num, _, ownsRow_setFar O1.out (by intro g hg; injection hg with hg; subst hg; show gg ≠ w2.heap.size; omega) _, Q3.out.set_ 2 _, W3.out.setCell (by simp) _⟩, by simp [intOf]; omega⟩
    · have hi : ¬ (k : Int) < (x.length : Int) := by omega
      have he := hown.out
      rw [List.take_of_length_le (show x.length ≤ k by omega), List.take_of_length_le (show y.length ≤ k by omega)] at he
      have hzl : (List.zipWith (fun a b => a || b) x y).length = k := by rw [List.length_zipWith]; omega
      obtain ⟨A1, c1, hv1, ho⟩ := ownS_of_row he hzl
      rw [hzl] at hv1
      subst hv1
      obtain ⟨d0, d1, d2⟩ := (BR2.out.below hW.out).cells3
      have f0 := (BR2.out.below hW.out).frozen 0
      have f1 := (BR2.out.below hW.out).frozen 1
      have f2 := (BR2.out.below hW.out).frozen 2
      have SR := hid (S2.out.trans (hW.out.mono (by omega)))
      have hz4 : (List.zipWith (fun a b => a || b) x y).length ≤ 1048576 := by omega
      clear he
      go_wp2
      refine bodyPost_ret (v := .tuple #[.agg #[.int .i64 r, .int .i64 s, .slice A1 k c1], .bool true]) (by simp [results, Try.results86, go_sem, d0, d1, d2]) rfl ⟨A1, c1, by show Ending.returned _ = Ending.returned _; rw [hzl], ?_, hz4, ?_⟩
      · exact (((ho.setFar (by simp <;> omega) _).setFar (by simp <;> omega) _).setFar (by simp <;> omega) _).mono (by omega)
      · exact ((SR.out.setCell (by simp <;> omega) _).setCell (by simp <;> omega) _).setCell (by simp <;> omega) _
set_option maxRecDepth 100000 in
set_option maxHeartbeats 1600000 in
theorem iJoinSieves0_any (r s : Int) (A : Option Addr) (c : Nat) (x : List Bool) (r' s' : Int) (A' : Option Addr) (c' : Nat) (y : List Bool) (w : World) (hr : W64 r) (hs : W64 s) (hx : RdL Value.bool w A x) (hn : x.length ≤ 1048576) (hr' : W64 r') (hs' : W64 s') (hy : RdL Value.bool w A' y) (hn' : y.length ≤ 1048576) :
    Calls Try.prog 31 #[.agg #[.int .i64 r, .int .i64 s, .slice A x.length c], .agg #[.int .i64 r', .int .i64 s', .slice A' y.length c']] w (RetSv w (pBoth (fun a b => a || b) r s x r' s' y)) := by
  have HX := hid hx
  have HY := hid hy
  have BR0 := hid (Blk.new3 w (.cells #[.int .i64 r, .int .i64 s, .slice A x.length c] 42) (.cells #[.int .i64 r', .int .i64 s', .slice A' y.length c'] 42) 42 [.int .i64 0, .int .i64 0, .slice none 0 0])
  obtain ⟨p, hp⟩ : ∃ p, p = pBoth (fun a b => a || b) r s x r' s' y := ⟨_, rfl⟩
  rw [← hp]
  go_enter Try.func31, Try.ntmps31
  go_wp2_with fail
  refine (bothJoinSieves_any r s A c x r' s' A' c' y _ hr hs (HX.out.below (below_a3 _ _ _ _)) hn hr' hs' (HY.out.below (below_a3 _ _ _ _)) hn').mono ?_
  rw [← hp]
  rintro e w1 ⟨A1, c1, rfl, ho, hl, hb⟩
  have R1 := hid (BR0.out.below hb)
  have S1 := below_call (below_a3 _ _ _ _) hb
  have O1 := hid (ho.mono (B' := w.heap.size + 3) (by simp))
  clear ho hb HX HY BR0 hr hs hx hr' hs' hy
  obtain ⟨d0, d1, d2⟩ := R1.out.cells3
  have f0 := R1.out.frozen 0
  have f1 := R1.out.frozen 1
  have f2 := R1.out.frozen 2
  go_wp2
  refine bodyPost_ret (v := .tuple #[.agg #[.int .i64 p.1.1, .int .i64 p.1.2.1, .slice A1 p.1.2.2.length c1], .bool p.2]) (by simp [results, Try.results31, go_sem, d0, d1, d2, ← hp]) rfl ⟨A1, c1, rfl, ?_, hl, ?_⟩
  · exact (((O1.out.setFar (by simp <;> omega) _).setFar (by simp <;> omega) _).setFar (by simp <;> omega) _).mono (by omega)
  · exact ((S1.out.setCell (by simp <;> omega) _).setCell (by simp <;> omega) _).setCell (by simp <;> omega) _
theorem iJoinSieves_any (r s : Int) (A : Option Addr) (c : Nat) (x : List Bool) (r' s' : Int) (A' : Option Addr) (c' : Nat) (y : List Bool) (w : World) (hr : W64 r) (hs : W64 s) (hx : RdL Value.bool w A x) (hn : x.length ≤ 1048576) (hr' : W64 r') (hs' : W64 s') (hy : RdL Value.bool w A' y) (hn' : y.length ≤ 1048576) :
    Calls Try.prog 31 #[.agg #[.int .i64 r, .int .i64 s, .slice A x.length c], .agg #[.int .i64 r', .int .i64 s', .slice A' y.length c']] w (RetSv w (pJoinSieves r s x r' s' y)) :=
  iJoinSieves0_any r s A c x r' s' A' c' y w hr hs hx hn hr' hs' hy hn'

theorem fnMeetSieves_any (u v : Bool) (w : World) : Calls Try.prog 90 #[.bool u, .bool v] w fun e w' => e = .returned (.bool ((fun a b => a && b) u v)) ∧ w = w' := by
  cases u <;> cases v <;>
  · go_enter Try.func90, Try.ntmps90
    go_wp2
    go_ret
    exact ⟨rfl, rfl⟩
set_option maxRecDepth 100000 in
set_option maxHeartbeats 3200000 in
theorem bothMeetSieves_any (r s : Int) (A : Option Addr) (c : Nat) (x : List Bool) (r' s' : Int) (A' : Option Addr) (c' : Nat) (y : List Bool) (w : World) (hr : W64 r) (hs : W64 s) (hx : RdL Value.bool w A x) (hn : x.length ≤ 1048576) (hr' : W64 r') (hs' : W64 s') (hy : RdL Value.bool w A' y) (hn' : y.length ≤ 1048576) :
    Calls Try.prog 86 #[.agg #[.int .i64 r, .int .i64 s, .slice A x.length c], .agg #[.int .i64 r', .int .i64 s', .slice A' y.length c'], .func (.func 90) #[] #[]] w (RetSv w (pBoth (fun a b => a && b) r s x r' s' y)) := by
  have HX := hid hx
  have HY := hid hy
  clear hx hy
  obtain ⟨i0, hi0, hz0, hz1, hz2⟩ := info_parts Try.infoB
  have BA0 := hid (((Blk.new w 42 [.int .i64 r, .int .i64 s, .slice A x.length c]).alloc (.cells #[.int .i64 r', .int .i64 s', .slice A' y.length c'] 42)).alloc (.cells #[.int .i64 0, .int .i64 0, .slice none 0 0] 42))
  have BB0 := hid ((Blk.new2 w (.cells #[.int .i64 r, .int .i64 s, .slice A x.length c] 42) 42 [.int .i64 r', .int .i64 s', .slice A' y.length c']).alloc (.cells #[.int .i64 0, .int .i64 0, .slice none 0 0] 42))
  have BR0 := hid (Blk.new3 w (.cells #[.int .i64 r, .int .i64 s, .slice A x.length c] 42) (.cells #[.int .i64 r', .int .i64 s', .slice A' y.length c'] 42) 42 [.int .i64 0, .int .i64 0, .slice none 0 0])
  obtain ⟨k0, k1, k2⟩ := BA0.out.cells3
  obtain ⟨l0, l1, l2⟩ := BB0.out.cells3
  cases ha : vSieve r s x.length with
  | false =>
    rw [pBoth_no (by simp [alikeS, ha])]
    refine Calls.mono ?_ retSv_no
    go_enter Try.func86, Try.ntmps86
    go_wp2_with fail
    refine (iValidSieve_any r s A c x _ hr hs (HX.out.below (below_a3 _ _ _ _)) hn).mono ?_
    rintro e w1 ⟨rfl, hb⟩
    obtain ⟨d0, d1, d2⟩ := (BR0.out.below hb).cells3
    have f0 := (BR0.out.below hb).frozen 0
    have f1 := (BR0.out.below hb).frozen 1
    have f2 := (BR0.out.below hb).frozen 2
    have S1 := below_call (below_a3 _ _ _ _) hb
    clear hb k0 k1 k2 l0 l1 l2 BA0 BB0 BR0
    go_wp2
    refine bodyPost_ret (v := .tuple #[.agg #[.int .i64 0, .int .i64 0, .slice none 0 0], .bool false]) (by simp [results, Try.results86, go_sem, d0, d1, d2]) rfl ⟨rfl, ?_⟩
    exact ((S1.out.setCell (by simp <;> omega) _).setCell (by simp <;> omega) _).setCell (by simp <;> omega) _
  | true =>
  have key : ∀ b u v z : Bool, vSieve r' s' y.length = b → (r == r') = u → (s == s') = v → ((x.length : Int) == (y.length : Int)) = z → (b && u && v && z) = false →
      Calls Try.prog 86 #[.agg #[.int .i64 r, .int .i64 s, .slice A x.length c], .agg #[.int .i64 r', .int .i64 s', .slice A' y.length c'], .func (.func 90) #[] #[]] w (RetSv w ((0, 0, []), false)) := by
    intro b u v z hb0 hu hv hz hno
    have hu' : (r != r') = !u := by rw [← hu]; rfl
    have hv' : (s != s') = !v := by rw [← hv]; rfl
    have hz' : ((x.length : Int) != (y.length : Int)) = !z := by rw [← hz]; rfl
    refine Calls.mono ?_ retSv_no
    cases b
    case' true =>
      cases u
      case' true =>
        cases v
        case' true => cases z
    all_goals
      try simp only [Bool.not_false, Bool.not_true] at hu' hv' hz'
      first
      | (exfalso; revert hno; decide)
      | (go_enter Try.func86, Try.ntmps86
         go_wp2_with fail
         refine (iValidSieve_any r s A c x _ hr hs (HX.out.below (below_a3 _ _ _ _)) hn).mono ?_
         rintro e w1 ⟨rfl, hb⟩
         have BA1 := hid (BA0.out.below hb)
         have BB1 := hid (BB0.out.below hb)
         have BR1 := hid (BR0.out.below hb)
         have S1 := below_call (below_a3 _ _ _ _) hb
         clear hb k0 k1 k2 l0 l1 l2 BA0 BB0 BR0
         obtain ⟨k0, k1, k2⟩ := BA1.out.cells3
         obtain ⟨l0, l1, l2⟩ := BB1.out.cells3
         go_wp2_with fail
         refine (iValidSieve_any r' s' A' c' y _ hr' hs' (HY.out.below S1.out) hn').mono ?_
         rintro e w2 ⟨rfl, hb⟩
         clear k0 k1 k2 l0 l1 l2
         obtain ⟨k0, k1, k2⟩ := (BA1.out.below hb).cells3
         obtain ⟨l0, l1, l2⟩ := (BB1.out.below hb).cells3
         obtain ⟨d0, d1, d2⟩ := (BR1.out.below hb).cells3
         have f0 := (BR1.out.below hb).frozen 0
         have f1 := (BR1.out.below hb).frozen 1
         have f2 := (BR1.out.below hb).frozen 2
         have S2 := hid (S1.out.trans (hb.mono S1.out.size))
         clear hb hno hu hv hz
         go_wp2
         refine bodyPost_ret (v := .tuple #[.agg #[.int .i64 0, .int .i64 0, .slice none 0 0], .bool false]) (by simp [results, Try.results86, go_sem, d0, d1, d2]) rfl ⟨rfl, ?_⟩
         exact ((S2.out.setCell (by simp <;> omega) _).setCell (by simp <;> omega) _).setCell (by simp <;> omega) _)
  cases hal : alikeS r s x.length r' s' y.length with
  | false =>
    rw [pBoth_no hal]
    refine key _ _ _ _ rfl rfl rfl rfl ?_
    simp only [alikeS, ha, Bool.true_and] at hal
    exact hal
  | true =>
  obtain ⟨hv, hv', rfl, rfl, hxy⟩ := alikeS_iff hal
  have HXY := hid hxy
  obtain ⟨⟨hr1, hr2⟩, ⟨hs1, hs2⟩, hn1, hn2⟩ := vSieve_iff hv
  have hxl1 : x.length ≤ y.length := by omega
  have hxl2 : y.length ≤ x.length := by omega
  have tz : ((x.length : Int) != (y.length : Int)) = false := by simp; omega
  have HV' := hid hv'
  rw [pBoth_yes hal]
  clear hxy hal key hv'
  go_enter Try.func86, Try.ntmps86
  go_wp2_with fail
  refine (iValidSieve_any r s A c x _ hr hs (HX.out.below (below_a3 _ _ _ _)) hn).mono ?_
  rintro e w1 ⟨rfl, hb⟩
  have BA1 := hid (BA0.out.below hb)
  have BB1 := hid (BB0.out.below hb)
  have BR1 := hid (BR0.out.below hb)
  have S1 := below_call (below_a3 _ _ _ _) hb
  have hl1 : w.heap.size + 3 ≤ w1.heap.size := by have := hb.size; simp at this; omega
  clear hb k0 k1 k2 l0 l1 l2 BA0 BB0 BR0
  obtain ⟨k0, k1, k2⟩ := BA1.out.cells3
  obtain ⟨l0, l1, l2⟩ := BB1.out.cells3
  go_wp2_with fail
  refine (iValidSieve_any r s A' c' y _ hr' hs' (HY.out.below S1.out) hn').mono ?_
  rw [HV'.out]
  rintro e w2 ⟨rfl, hb⟩
  clear k0 k1 k2 l0 l1 l2
  have BA2 := hid (BA1.out.below hb)
  have BB2 := hid (BB1.out.below hb)
  have BR2 := hid (BR1.out.below hb)
  have S2 := hid (S1.out.trans (hb.mono S1.out.size))
  have hl2 : w.heap.size + 3 ≤ w2.heap.size := by have := hb.size; omega
  have HX2 := hid (HX.out.below S2.out)
  have HY2 := hid (HY.out.below S2.out)
  clear hb BA1 BB1 BR1 hv hr hs hr' hs' ha
  obtain ⟨k0, k1, k2⟩ := BA2.out.cells3
  obtain ⟨l0, l1, l2⟩ := BB2.out.cells3
  have na : w.heap.size < w2.heap.size := by omega
  have nb : w.heap.size + 1 < w2.heap.size := by omega
  go_wp2
  go_loopw [51] (fun i wr => ∃ k : Nat, k ≤ x.length ∧ i = .int .i64 k ∧ ∃ v, Hid (wr.ownsRow (w2.heap.size + 1) 4 1 v k ((List.zipWith (fun a b => a && b) (x.take k) (y.take k)).map Value.bool)) ∧ Hid (Blk wr w2.heap.size 42 [.int .i64 r, .int .i64 s, v]) ∧ Hid (Below w2.heap.size w2 wr)) (fun i _ => x.length - (intOf i).toNat)
  case atStart => exact ⟨0, Nat.zero_le _, rfl, _, ⟨rfl, .inl ⟨rfl, rfl⟩⟩, Blk.new _ _ _, below_a1 _ _⟩
  case round =>
    obtain ⟨k, hkr, rfl, v, hown, hq, hW⟩ := hrel
    obtain ⟨q0, q1, q2⟩ := hq.out.cells3
    clear k0 k1 k2 l0 l1 l2
    obtain ⟨l0, l1, l2⟩ := (BB2.out.below hW.out).cells3
    by_cases hlt : k < x.length
    · have hi : (k : Int) < (x.length : Int) := by omega
      have hiy : (k : Int) < (y.length : Int) := by omega
      obtain ⟨bx, ox, u, hA, hcx0, hxk⟩ := HX2.out.at_ hlt
      obtain ⟨by', oy, vv, hA', hcy0, hyk⟩ := HY2.out.at_ (k := k) (by omega)
      subst hA hA'
      have hbx := World.block_lt_of_cell? w2 _ hcx0
      have hby := World.block_lt_of_cell? w2 _ hcy0
      have hcx := (hW.out.cell (p := ⟨bx, ox + k, none⟩) hbx).trans hcx0
      have hcy := (hW.out.cell (p := ⟨by', oy + k, none⟩) hby).trans hcy0
      have hlb : w2.heap.size < wr.heap.size := hq.out.lt
      have hag : ∀ b, b ≤ w2.heap.size → some b ≠ v.ownBlock := fun b hb e => by have := (hown.out.lt _ e.symm).1; omega
      have hag1 := hag w2.heap.size (by omega)
      have hag2 := hag (w.heap.size + 1) (by omega)
      have hag3 := hag by' (by simp at hby; omega)
      have hz := zip_take (f := (fun a b => a && b)) hxk hyk
      have hby2 : by' < w2.heap.size := hby
      have hby3 : by' ≠ w2.heap.size := by omega
      have hby4 : w2.heap.size ≠ by' := by omega
      have nb' : w.heap.size + 1 ≠ w2.heap.size := by omega
      have nb2 : w2.heap.size ≠ w.heap.size + 1 := by omega
      clear hcx0 hcy0 hbx hby l0 l1 q0 q1
      go_wp2
      go_region_law (first
          | (refine step_append_lies _ (by rfl) _ _ _ (by rfl) (w2.heap.size + 1) 4 i0 _ 1 1 Try.underlying35 hi0 hz0 hz1 hz2 rfl (by omega) _ _ _ (by rfl) ((hown.out.alloc _).drew) ⟨wr.heap.size, 0, none⟩ 1 1 [.bool (u && vv)] (by rfl) (by rfl) (World.news_of_block (cs := #[.bool (u && vv)]) (t := 4) (fr := (0, 0)) (heap_alloc_new wr _)) (by simp [Value.oneCell']) (by omega) (by simp only [maxLen]; omega) (by omega) (by simp; omega) (wr.heap.size + 1) (by simp) ?_
             intro gg cap w3 hown1 hgrow hat hlt'
             have W3 : Hid (Below w2.heap.size w2 w3) := ((hW.out.alloc (by omega) _).drew).grown hgrow (by simp; omega) (fun g hg => by have := (hown.out.lt g hg).1; omega)
             have Q3 : Hid (Blk w3 w2.heap.size 42 [.int .i64 r, .int .i64 s, v]) := (hgrow.block w2.heap.size (by simp; omega) hag1).trans ((hq.out.alloc _))
             obtain ⟨z0, z1, z2⟩ := Q3.out.cells3
             have g2 := Q3.out.frozen 2)
          | (go_simp
             go_at_call 90
             refine (fnMeetSieves_any _ _ _).mono ?_
             rintro e w' ⟨rfl, rfl⟩))
      all_goals
        have hmm : (List.zipWith (fun a b => a && b) (x.take k) (y.take k)).map Value.bool ++ [Value.bool (u && vv)] = (List.zipWith (fun a b => a && b) (x.take (k + 1)) (y.take (k + 1))).map Value.bool := by rw [← hz]; simp
        rw [hmm] at hown1
        have O1 := hid hown1
        clear hown1 hgrow hat hlt' hmm hz hag hag1 hag2 hag3
        go_wp2
        have hgg := (O1.out.lt gg rfl).1
        exact ⟨⟨k + 1, by omega, by go_num, _, ownsRow_setFar O1.out (by intro g hg; injection hg with hg; subst hg; show gg ≠ w2.heap.size; omega) _, Q3.out.set_ 2 _, W3.out.setCell (by simp) _⟩, by simp [intOf]; omega⟩
    · have hi : ¬ (k : Int) < (x.length : Int) := by omega
      have he := hown.out
      rw [List.take_of_length_le (show x.length ≤ k by omega), List.take_of_length_le (show y.length ≤ k by omega)] at he
      have hzl : (List.zipWith (fun a b => a && b) x y).length = k := by rw [List.length_zipWith]; omega
      obtain ⟨A1, c1, hv1, ho⟩ := ownS_of_row he hzl
      rw [hzl] at hv1
      subst hv1
      obtain ⟨d0, d1, d2⟩ := (BR2.out.below hW.out).cells3
      have f0 := (BR2.out.below hW.out).frozen 0
      have f1 := (BR2.out.below hW.out).frozen 1
      have f2 := (BR2.out.below hW.out).frozen 2
      have SR := hid (S2.out.trans (hW.out.mono (by omega)))
      have hz4 : (List.zipWith (fun a b => a && b) x y).length ≤ 1048576 := by omega
      clear he
      go_wp2
      refine bodyPost_ret (v := .tuple #[.agg #[.int .i64 r, .int .i64 s, .slice A1 k c1], .bool true]) (by simp [results, Try.results86, go_sem, d0, d1, d2]) rfl ⟨A1, c1, by show Ending.returned _ = Ending.returned _; rw [hzl], ?_, hz4, ?_⟩
      · exact (((ho.setFar (by simp <;> omega) _).setFar (by simp <;> omega) _).setFar (by simp <;> omega) _).mono (by omega)
      · exact ((SR.out.setCell (by simp <;> omega) _).setCell (by simp <;> omega) _).setCell (by simp <;> omega) _
set_option maxRecDepth 100000 in
set_option maxHeartbeats 1600000 in
theorem iMeetSieves0_any (r s : Int) (A : Option Addr) (c : Nat) (x : List Bool) (r' s' : Int) (A' : Option Addr) (c' : Nat) (y : List Bool) (w : World) (hr : W64 r) (hs : W64 s) (hx : RdL Value.bool w A x) (hn : x.length ≤ 1048576) (hr' : W64 r') (hs' : W64 s') (hy : RdL Value.bool w A' y) (hn' : y.length ≤ 1048576) :
    Calls Try.prog 35 #[.agg #[.int .i64 r, .int .i64 s, .slice A x.length c], .agg #[.int .i64 r', .int .i64 s', .slice A' y.length c']] w (RetSv w (pBoth (fun a b => a && b) r s x r' s' y)) := by
  have HX := hid hx
  have HY := hid hy
  have BR0 := hid (Blk.new3 w (.cells #[.int .i64 r, .int .i64 s, .slice A x.length c] 42) (.cells #[.int .i64 r', .int .i64 s', .slice A' y.length c'] 42) 42 [.int .i64 0, .int .i64 0, .slice none 0 0])
  obtain ⟨p, hp⟩ : ∃ p, p = pBoth (fun a b => a && b) r s x r' s' y := ⟨_, rfl⟩
  rw [← hp]
  go_enter Try.func35, Try.ntmps35
  go_wp2_with fail
  refine (bothMeetSieves_any r s A c x r' s' A' c' y _ hr hs (HX.out.below (below_a3 _ _ _ _)) hn hr' hs' (HY.out.below (below_a3 _ _ _ _)) hn').mono ?_
  rw [← hp]
  rintro e w1 ⟨A1, c1, rfl, ho, hl, hb⟩
  have R1 := hid (BR0.out.below hb)
  have S1 := below_call (below_a3 _ _ _ _) hb
  have O1 := hid (ho.mono (B' := w.heap.size + 3) (by simp))
  clear ho hb HX HY BR0 hr hs hx hr' hs' hy
  obtain ⟨d0, d1, d2⟩ := R1.out.cells3
  have f0 := R1.out.frozen 0
  have f1 := R1.out.frozen 1
  have f2 := R1.out.frozen 2
  go_wp2
  refine bodyPost_ret (v := .tuple #[.agg #[.int .i64 p.1.1, .int .i64 p.1.2.1, .slice A1 p.1.2.2.length c1], .bool p.2]) (by simp [results, Try.results35, go_sem, d0, d1, d2, ← hp]) rfl ⟨A1, c1, rfl, ?_, hl, ?_⟩
  · exact (((O1.out.setFar (by simp <;> omega) _).setFar (by simp <;> omega) _).setFar (by simp <;> omega) _).mono (by omega)
  · exact ((S1.out.setCell (by simp <;> omega) _).setCell (by simp <;> omega) _).setCell (by simp <;> omega) _
theorem iMeetSieves_any (r s : Int) (A : Option Addr) (c : Nat) (x : List Bool) (r' s' : Int) (A' : Option Addr) (c' : Nat) (y : List Bool) (w : World) (hr : W64 r) (hs : W64 s) (hx : RdL Value.bool w A x) (hn : x.length ≤ 1048576) (hr' : W64 r') (hs' : W64 s') (hy : RdL Value.bool w A' y) (hn' : y.length ≤ 1048576) :
    Calls Try.prog 35 #[.agg #[.int .i64 r, .int .i64 s, .slice A x.length c], .agg #[.int .i64 r', .int .i64 s', .slice A' y.length c']] w (RetSv w (pMeetSieves r s x r' s' y)) :=
  iMeetSieves0_any r s A c x r' s' A' c' y w hr hs hx hn hr' hs' hy hn'

end Go.Proofs.Ytlcpchpodcchlaa
