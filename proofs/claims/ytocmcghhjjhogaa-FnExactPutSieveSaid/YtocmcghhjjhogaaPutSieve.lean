/-
  Putting keys into a sieve: reference and program, by contracts.
-/
import Derived.Test.YtocmcghhjjhogaaOwn
import Derived.Test.YtocmcghhjjhogaaInSieve
import Derived.Test.YtocmcghhjjhogaaWithin
import Derived.Deep.CutRange
namespace Go.Proofs.Ytocmcghhjjhogaa
open Go.RowKit
set_option linter.unusedVariables false

/-- The bits at all listed places become true. -/
def putAt (x : List Bool) (l : List Int) : List Bool := l.foldl (fun x p => x.set p.toNat true) x
theorem putAt_length (x : List Bool) (l : List Int) : (putAt x l).length = x.length := by
  unfold putAt
  induction l generalizing x with
  | nil => rfl
  | cons a l ih => rw [List.foldl_cons, ih]; simp
theorem putAt_zero (x : List Bool) (l : List Int) : putAt x (l.take 0) = x := by simp [putAt]
theorem putAt_succ {x : List Bool} {l : List Int} {k m : Nat} (h : Hid (l[k]? = some (m : Int))) : (putAt x (l.take k)).set m true = putAt x (l.take (k + 1)) := by
  unfold putAt
  rw [List.take_add_one, h.out, List.foldl_append]
  simp
/-- All keys' places. -/
def putKeys (x : List Bool) (s n r : Nat) (keys : List Int) : List Bool := keys.foldl (fun x key => putAt x (spotsL key.toNat s n r)) x
theorem putKeys_length (x : List Bool) (s n r : Nat) (keys : List Int) : (putKeys x s n r keys).length = x.length := by
  unfold putKeys
  induction keys generalizing x with
  | nil => rfl
  | cons a l ih => rw [List.foldl_cons, ih, putAt_length]
theorem putKeys_succ {x : List Bool} {s n r k key : Nat} {keys : List Int} (h : Hid (keys[k]? = some (key : Int))) : putAt (putKeys x s n r (keys.take k)) (spotsL key s n r) = putKeys x s n r (keys.take (k + 1)) := by
  unfold putKeys
  rw [List.take_add_one, h.out, List.foldl_append]
  simp
/-- What PutSieve returns. -/
def pPutSieve (r s : Int) (x : List Bool) (key : Int) : (Int × Int × List Bool) × Bool :=
  if vSieve r s x.length = true ∧ inB key 0 4294967295 = true then ((r, s, putAt x (spotsL key.toNat s.toNat x.length r.toNat)), true) else ((0, 0, []), false)

theorem TouchAll.of_below {w w' : World} (h : Below w.heap.size w w') (l : List (Option Addr × Nat)) : TouchAll w w' l := ⟨h.os, h.tape, h.output, h.size, fun b hb _ => h.block b hb⟩
theorem TouchAll.below1 {w w' : World} {g n B : Nat} (h : TouchAll w w' [(some ⟨g, 0, none⟩, n)]) (hB : B ≤ w.heap.size) (hg : B ≤ g) : Below B w w' :=
  ⟨h.os, h.tape, h.output, h.size, fun k hk => h.block k (by omega) fun p hp => by
    simp at hp; subst hp
    exact .inr fun o e => by injection e with e; injection e with e; omega⟩
theorem Blk.touch {w w' : World} {q g n : Nat} {t : TypeId} {cs : List Value} (h : Blk w q t cs) (k : Touch w w' (some ⟨g, 0, none⟩) n) (hq : g ≠ q) : Blk w' q t cs :=
  (k.block q (.inr fun o e => by injection e with e; injection e with e; exact hq e)).trans h
theorem TouchAll.trans1 {w w' w'' : World} {A : Option Addr} {n : Nat} (h : TouchAll w w' [(A, n)]) (k : TouchAll w' w'' [(A, n)]) : TouchAll w w'' [(A, n)] :=
  ⟨k.os.trans h.os, k.tape.trans h.tape, k.output.trans h.output, Nat.le_trans h.size k.size, fun b hb hp => (k.block b (Nat.lt_of_lt_of_le hb h.size) hp).trans (h.block b hb hp)⟩

set_option maxHeartbeats 1600000 in
theorem l04Put_any (q c g r s key B : Nat) (y : List Bool) (w : World) (hb : Blk w q 29 [.int .i64 r, .int .i64 s, .slice (some ⟨g, 0, none⟩) y.length c]) (ho : OwnS Value.bool w B 4 (some ⟨g, 0, none⟩) y)
    (hq : g ≠ q) (hk : key < 4294967296) (hs : s < 4294967296) (hr : r ≤ 8) (hn0 : 0 < y.length) (hn : y.length ≤ 512) :
    Calls Try.prog 107 #[.pointer (some ⟨q, 0, none⟩), .int .i64 key] w fun e w' => e = .returned (.tuple #[]) ∧
      OwnS Value.bool w' B 4 (some ⟨g, 0, none⟩) (putAt y (spotsL key s y.length r)) ∧ TouchAll w w' [(some ⟨g, 0, none⟩, y.length)] := by
  have HB := hid hb
  have HO := hid ho
  obtain ⟨c0, c1, c2⟩ := hb.cells3
  clear hb ho
  go_enter Try.func107, Try.ntmps107
  go_wp2
  go_region_held3 (fun w' => w'.cell? ⟨q, 0, none⟩ = some (.int .i64 r) ∧ w'.cell? ⟨q, 1, none⟩ = some (.int .i64 s) ∧ w'.cell? ⟨q, 2, none⟩ = some (.slice (some ⟨g, 0, none⟩) y.length c)) (first | go_keep | exact hS)
    (first | (go_at_call 83
              refine (l04Places_any key s r y.length _ (by omega) (by omega) (by omega) (by omega)).mono ?_
              rintro e w1 ⟨A1, c1', rfl, hoP, hbP⟩
              have hbP := below_drew' hbP
              have hS := (HB.out.below hbP).cells3))
  have hbP' : Below w.heap.size w w1 := hbP
  have hoP' : OwnS (Value.int .i64) w1 w.heap.size 2 A1 (spotsL key s y.length r) := hoP
  have T1 : Hid (TouchAll w w1 [(some ⟨g, 0, none⟩, y.length)]) := TouchAll.of_below hbP' _
  have O1 := hid (HO.out.below hbP')
  have B1 := hid (HB.out.below hbP')
  have HA := hid (OwnS.apart_lt HO.out hoP' (Nat.le_refl _))
  have HP := hid hoP'
  have hPl := spotsL_length key s y.length r
  have hmem : Hid (∀ p ∈ spotsL key s y.length r, ∃ m : Nat, p = m ∧ m < y.length) := fun p hp' => spotsL_mem (by omega) hp'
  clear hbP' hoP' hoP hbP hS HB HO c0 c1 c2 hs hk
  obtain ⟨P, hPe⟩ : ∃ P, P = spotsL key s y.length r := ⟨_, rfl⟩
  rw [← hPe] at HA HP hPl hmem ⊢
  have HPe := hid hPe
  clear hPe
  have hP8 : P.length ≤ 8 := by omega
  clear hPl
  go_wp2
  go_loopw [5] (fun i wr => ∃ k : Nat, k ≤ P.length ∧ i = .int .i64 k ∧ Hid (OwnS Value.bool wr B 4 (some ⟨g, 0, none⟩) (putAt y (P.take k))) ∧ Hid (Touch w1 wr (some ⟨g, 0, none⟩) y.length)) (fun i _ => P.length - (intOf i).toNat)
  case atStart => exact ⟨0, Nat.zero_le _, rfl, by rw [putAt_zero]; exact O1, Touch.refl⟩
  case round =>
    obtain ⟨k, hkr, rfl, hok, hT⟩ := hrel
    by_cases hlt : k < P.length
    · have hi : (k : Int) < (P.length : Int) := by omega
      have HPk := hid (HP.out.touch hT.out HA.out)
      obtain ⟨b1, o1, p, rfl, hcp, hpk⟩ := HPk.out.rd.at_ hlt
      obtain ⟨m, rfl, hm⟩ := hmem.out p (List.mem_of_getElem? hpk.out)
      have hl := putAt_length y (P.take k)
      obtain ⟨g', u, hg', hgB, hcy, hfy, hym, hput⟩ := hok.out.put (j := m) (by omega)
      injection hg' with hg'; injection hg' with hg'
      subst hg'
      have hO2 := hput true
      rw [putAt_succ hpk] at hO2
      have hT2 := hid ((hT.out.set_ hn0 m (.bool true)).drewN 1)
      obtain ⟨d0, d1, d2⟩ := (B1.out.touch hT.out hq).cells3
      have hm' : (m : Int) < (y.length : Int) := by omega
      have hm0 : (0 : Int) ≤ (m : Int) := by omega
      have hne : g ≠ b1 := by
        rcases HA.out with h | h | h
        · omega
        · omega
        · exact h g 0 b1 o1 rfl rfl
      have hne' := Ne.symm hne
      have hq' := Ne.symm hq
      clear hput d0 d1 hl hgB
      go_wp2
      go_region_held3 (fun w' => w'.cell? ⟨q, 2, none⟩ = some (.slice (some ⟨g, 0, none⟩) y.length c) ∧ w'.cell? ⟨b1, o1 + k, none⟩ = some (.int .i64 m)) (first | go_keep | (refine ⟨?_, ?_⟩ <;> go_keep)) (fail)
      go_wp2
      exact ⟨⟨k + 1, by omega, by go_num, hO2, hT2⟩, by simp [intOf]; omega⟩
    · have hi : ¬ (k : Int) < (P.length : Int) := by omega
      go_wp2
      have he := hok.out
      rw [List.take_of_length_le (by omega)] at he
      go_end0
      exact ⟨rfl, HPe.out ▸ he, T1.out.trans hT.out⟩
/-- It hands back a sieve of its own, and whether it could. -/
def RetSv (w : World) (p : (Int × Int × List Bool) × Bool) (e : Ending) (w' : World) : Prop := ∃ A c,
  e = .returned (.tuple #[.agg #[.int .i64 p.1.1, .int .i64 p.1.2.1, .slice A p.1.2.2.length c], .bool p.2]) ∧ OwnS Value.bool w' w.heap.size 4 A p.1.2.2 ∧ p.1.2.2.length ≤ 1048576 ∧ Below w.heap.size w w'
theorem retSv_no {w : World} : ∀ (e : Ending) (w' : World), (e = .returned (.tuple #[.agg #[.int .i64 0, .int .i64 0, .slice none 0 0], .bool false]) ∧ Below w.heap.size w w') → RetSv w ((0, 0, []), false) e w' :=
  fun e w' ⟨he, hb⟩ => ⟨none, 0, he, OwnS.nil, by simp, hb⟩
set_option maxHeartbeats 1600000 in
theorem sPutSieve_any (r s : Int) (A : Option Addr) (c : Nat) (x : List Bool) (key : Int) (w : World) (hr : W64 r) (hs : W64 s) (hx : RdL Value.bool w A x) (hn : x.length ≤ 1048576) (hkey : W64 key) :
    Calls Try.prog 59 #[.agg #[.int .i64 r, .int .i64 s, .slice A x.length c], .int .i64 key] w (RetSv w (pPutSieve r s x key)) := by
  have HX := hid hx
  clear hr hs hx hkey
  cases hv : vSieve r s x.length with
  | false =>
    have hp : pPutSieve r s x key = ((0, 0, []), false) := by simp [pPutSieve, hv]
    rw [hp]
    clear hp
    refine Calls.mono ?_ retSv_no
    go_enter Try.func59, Try.ntmps59
    go_wp2_with (first | (go_at_call 82; refine (l02Key_any _ _).mono ?_; rintro e w' ⟨rfl, rfl⟩) | (go_at_call 62; refine (l04Is_any _ _ x.length c A r s _ (by simp) (by simp) (by simp)).mono ?_; rintro e w' ⟨rfl, rfl⟩))
    refine bodyPost_ret (v := .tuple #[.agg #[.int .i64 0, .int .i64 0, .slice none 0 0], .bool false]) (by simp [results, Try.results59, go_sem]) rfl ⟨rfl, below_a2 _ _ _⟩
  | true =>
  cases hk : inB key 0 4294967295 with
  | false =>
    have hp : pPutSieve r s x key = ((0, 0, []), false) := by simp [pPutSieve, hk]
    rw [hp]
    clear hp
    refine Calls.mono ?_ retSv_no
    go_enter Try.func59, Try.ntmps59
    go_wp2_with (first | (go_at_call 82; refine (l02Key_any _ _).mono ?_; rintro e w' ⟨rfl, rfl⟩) | (go_at_call 62; refine (l04Is_any _ _ x.length c A r s _ (by simp) (by simp) (by simp)).mono ?_; rintro e w' ⟨rfl, rfl⟩))
    refine bodyPost_ret (v := .tuple #[.agg #[.int .i64 0, .int .i64 0, .slice none 0 0], .bool false]) (by simp [results, Try.results59, go_sem]) rfl ⟨rfl, below_a2 _ _ _⟩
  | true =>
  obtain ⟨⟨hr1, hr2⟩, ⟨hs1, hs2⟩, hn1, hn2⟩ := vSieve_iff hv
  obtain ⟨hk1, hk2⟩ := inB_iff.1 hk
  obtain ⟨r, rfl⟩ := Int.eq_ofNat_of_zero_le (show 0 ≤ r by omega)
  obtain ⟨s, rfl⟩ := Int.eq_ofNat_of_zero_le hs1
  obtain ⟨key, rfl⟩ := Int.eq_ofNat_of_zero_le hk1
  have hp : pPutSieve r s x key = (((r : Int), (s : Int), putAt x (spotsL key s x.length r)), true) := by simp [pPutSieve, hv, hk]
  rw [hp]
  clear hp
  go_enter Try.func59, Try.ntmps59
  go_wp2_with (first | (go_at_call 82; refine (l02Key_any _ _).mono ?_; rintro e w' ⟨rfl, rfl⟩) | (go_at_call 62; refine (l04Is_any _ _ x.length c A r s _ (by simp) (by simp) (by simp)).mono ?_; rintro e w' ⟨rfl, rfl⟩))
  refine (l04Own_any w.heap.size c A r s x _ (by simp) (by simp) (by simp) (HX.out.below (below_a2 _ _ _)) (by omega) hn).mono ?_
  rintro e w1 ⟨A1, c1, rfl, ho, hb⟩
  go_wp2_with fail
  have ho' : OwnS Value.bool w1 (w.heap.size + 2) 4 A1 x := ho.mono (by simp)
  obtain ⟨g, ex, rfl, hgB, hgb⟩ := ho' (by rintro rfl; simp at hn1)
  have hgl := hgb.lt
  have O1 := hid (ho'.below (below_a1 w1 (.cells #[.int .i64 r, .int .i64 s, .slice (some ⟨g, 0, none⟩) x.length c1] 29)))
  have R1 := hid (((Blk.new2 w (.cells #[.int .i64 r, .int .i64 s, .slice A x.length c] 29) 29 [.int .i64 0, .int .i64 0, .slice none 0 0]).below hb).below (below_a1 w1 (.cells #[.int .i64 r, .int .i64 s, .slice (some ⟨g, 0, none⟩) x.length c1] 29)))
  have S1 := below_call (below_a2 w _ _) hb
  have hwl := S1.out.size
  clear hgb hb ho ho' hv hk
  refine (l04Put_any w1.heap.size c1 g r s key (w.heap.size + 2) x _ (Blk.new _ _ _) O1.out (by omega) (by omega) (by omega) (by omega) (by omega) (by omega)).mono ?_
  rintro e w2 ⟨rfl, hO2, hT2⟩
  have Q2 := hid ((Blk.new w1 29 [.int .i64 r, .int .i64 s, .slice (some ⟨g, 0, none⟩) x.length c1]).touchAll hT2 (by intro p hp; simp at hp; subst hp; exact .inr fun o e => by injection e with e; injection e with e; omega))
  have R2 := hid (R1.out.touchAll hT2 (by intro p hp; simp at hp; subst hp; exact .inr fun o e => by injection e with e; injection e with e; omega))
  have O2 := hid hO2
  have T2 := hid hT2
  clear hT2 hO2 R1 O1
  obtain ⟨c0, c1', c2⟩ := Q2.out.cells3
  obtain ⟨d0, d1, d2⟩ := R2.out.cells3
  have f0 := R2.out.frozen 0
  have f1 := R2.out.frozen 1
  have f2 := R2.out.frozen 2
  go_wp2
  refine bodyPost_ret (v := .tuple #[.agg #[.int .i64 r, .int .i64 s, .slice (some ⟨g, 0, none⟩) x.length c1], .bool true]) (by simp [results, Try.results59, go_sem, d0, d1, d2]) rfl ⟨some ⟨g, 0, none⟩, c1, by simp [putAt_length], ?_, by simp [putAt_length]; omega, ?_⟩
  · exact (((O2.out.setFar (by simp) _).setFar (by simp) _).setFar (by simp) _).mono (by omega)
  · exact ((((S1.out.alloc (by omega) _).trans (T2.out.below1 (by simp; omega) (by omega))).setCell (by simp) _).setCell (by simp) _).setCell (by simp) _
theorem AreKeys_any (A : Option Addr) (c : Nat) (xs : List Int) (w : World) (hx : RdL (Value.int .i64) w A xs) (hn : xs.length ≤ 1048576) :
    Calls Try.prog 119 #[.slice A xs.length c] w fun e w' => e = .returned (.bool (decide ((xs.length : Int) ≤ 256) && allB xs 0 4294967295)) ∧ w = w' := by
  have HX := hid hx
  clear hx
  by_cases h : (xs.length : Int) ≤ 256
  · go_enter Try.func119, Try.ntmps119
    go_wp2_with fail
    refine (areAllKeys_any A c xs _ HX.out hn).mono ?_
    rintro e w' ⟨rfl, rfl⟩
    go_wp2
    go_ret
    exact ⟨by simp [h], rfl⟩
  · go_enter Try.func119, Try.ntmps119
    go_wp2
    go_ret
    exact ⟨by simp; omega, rfl⟩
/-- What SieveOf returns. -/
def pSieveOf (r s : Int) (x : List Bool) (keys : List Int) : (Int × Int × List Bool) × Bool :=
  if vSieve r s x.length = true ∧ (decide ((keys.length : Int) ≤ 256) && allB keys 0 4294967295) = true then ((r, s, putKeys x s.toNat x.length r.toNat keys), true) else ((0, 0, []), false)
theorem pSieveOf_one (r s : Int) (x : List Bool) (key : Int) : pSieveOf r s x [key] = pPutSieve r s x key := by
  simp [pSieveOf, pPutSieve, putKeys, allB]
set_option maxHeartbeats 3200000 in
theorem iSieveOf_any (r s : Int) (A : Option Addr) (c : Nat) (x : List Bool) (KA : Option Addr) (kc : Nat) (keys : List Int) (w : World) (hr : W64 r) (hs : W64 s) (hx : RdL Value.bool w A x) (hn : x.length ≤ 1048576) (hkx : RdL (Value.int .i64) w KA keys) (hkn : keys.length ≤ 1048576) :
    Calls Try.prog 108 #[.agg #[.int .i64 r, .int .i64 s, .slice A x.length c], .slice KA keys.length kc] w (RetSv w (pSieveOf r s x keys)) := by
  have HX := hid hx
  have HK := hid hkx
  clear hx hkx
  have b0 := hid ((Blk.new w 29 [.int .i64 r, .int .i64 s, .slice A x.length c]).alloc (.cells #[.int .i64 0, .int .i64 0, .slice none 0 0] 29))
  have r0 := hid (Blk.new2 w (.cells #[.int .i64 r, .int .i64 s, .slice A x.length c] 29) 29 [.int .i64 0, .int .i64 0, .slice none 0 0])
  by_cases hno : vSieve r s x.length = true ∧ (decide ((keys.length : Int) ≤ 256) && allB keys 0 4294967295) = true
  case neg =>
    have hp : pSieveOf r s x keys = ((0, 0, []), false) := if_neg hno
    rw [hp]
    clear hp
    refine Calls.mono ?_ retSv_no
    cases hv : vSieve r s x.length with
    | false =>
      go_enter Try.func108, Try.ntmps108
      go_wp2_with fail
      refine (iValidSieve_any r s A c x _ hr hs (HX.out.below (below_a2 _ _ _)) hn).mono ?_
      rintro e w1 ⟨rfl, hb⟩
      have R1 := hid (r0.out.below hb)
      obtain ⟨d0, d1, d2⟩ := R1.out.cells3
      have f0 := R1.out.frozen 0
      have f1 := R1.out.frozen 1
      have f2 := R1.out.frozen 2
      have S1 := below_call (below_a2 _ _ _) hb
      clear hno r0 b0
      go_wp2
      refine bodyPost_ret (v := .tuple #[.agg #[.int .i64 0, .int .i64 0, .slice none 0 0], .bool false]) (by simp [results, Try.results108, go_sem, d0, d1, d2]) rfl ⟨rfl, ?_⟩
      exact ((S1.out.setCell (by simp) _).setCell (by simp) _).setCell (by simp) _
    | true =>
      have hno2 : (decide ((keys.length : Int) ≤ 256) && allB keys 0 4294967295) = false := by
        rcases h : (decide ((keys.length : Int) ≤ 256) && allB keys 0 4294967295) with _ | _
        · rfl
        · exact absurd ⟨hv, h⟩ hno
      go_enter Try.func108, Try.ntmps108
      go_wp2_with fail
      refine (iValidSieve_any r s A c x _ hr hs (HX.out.below (below_a2 _ _ _)) hn).mono ?_
      rintro e w1 ⟨rfl, hb⟩
      have R1 := hid (r0.out.below hb)
      obtain ⟨d0, d1, d2⟩ := R1.out.cells3
      have f0 := R1.out.frozen 0
      have f1 := R1.out.frozen 1
      have f2 := R1.out.frozen 2
      have S1 := below_call (below_a2 _ _ _) hb
      clear hno r0 b0
      go_wp2_with fail
      refine (AreKeys_any KA kc keys _ (HK.out.below S1.out) hkn).mono ?_
      rintro e w' ⟨rfl, rfl⟩
      go_wp2
      refine bodyPost_ret (v := .tuple #[.agg #[.int .i64 0, .int .i64 0, .slice none 0 0], .bool false]) (by simp [results, Try.results108, go_sem, d0, d1, d2]) rfl ⟨rfl, ?_⟩
      exact ((S1.out.setCell (by simp) _).setCell (by simp) _).setCell (by simp) _
  case pos =>
  obtain ⟨hv, hks⟩ := hno
  obtain ⟨⟨hr1, hr2⟩, ⟨hs1, hs2⟩, hn1, hn2⟩ := vSieve_iff hv
  obtain ⟨r, rfl⟩ := Int.eq_ofNat_of_zero_le (show 0 ≤ r by omega)
  obtain ⟨s, rfl⟩ := Int.eq_ofNat_of_zero_le hs1
  have hp : pSieveOf r s x keys = (((r : Int), (s : Int), putKeys x s x.length r keys), true) := if_pos ⟨hv, hks⟩
  rw [hp]
  clear hp
  go_enter Try.func108, Try.ntmps108
  go_wp2_with fail
  refine (iValidSieve_any r s A c x _ hr hs (HX.out.below (below_a2 _ _ _)) hn).mono ?_
  rintro e w1 ⟨rfl, hb⟩
  have R1 := hid (r0.out.below hb)
  have B1 := hid (b0.out.below hb)
  have S1 := below_call (below_a2 _ _ _) hb
  have HX1 := hid (HX.out.below S1.out)
  have HK1 := hid (HK.out.below S1.out)
  clear r0 b0 hr hs HX HK hb
  go_wp2_with fail
  refine (AreKeys_any KA kc keys _ HK1.out hkn).mono ?_
  rintro e w' ⟨rfl, rfl⟩
  obtain ⟨c0, c1, c2⟩ := B1.out.cells3
  go_wp2
  have hl1 := R1.out.lt
  have hpne : w.heap.size ≠ w1.heap.size := by omega
  have hpne' : w1.heap.size ≠ w.heap.size := by omega
  go_cut [6] from 20 to 27 (fun v wx => ∃ q g2 c2 : Nat, v = .pointer (some ⟨q, 0, none⟩) ∧ Hid (w1.heap.size ≤ q ∧ w1.heap.size ≤ g2 ∧ g2 ≠ q ∧ Blk wx q 29 [.int .i64 r, .int .i64 s, .slice (some ⟨g2, 0, none⟩) x.length c2] ∧ OwnS Value.bool wx w1.heap.size 4 (some ⟨g2, 0, none⟩) x ∧ Below w1.heap.size w1 wx))
  case first =>
    go_region_held3 (fun w' => w'.cell? ⟨w.heap.size, 0, none⟩ = some (.int .i64 r) ∧ w'.cell? ⟨w.heap.size, 1, none⟩ = some (.int .i64 s) ∧ w'.cell? ⟨w.heap.size, 2, none⟩ = some (.slice A x.length c)) (first | go_keep | exact hS | (refine ⟨?_, ?_, ?_⟩ <;> go_keep) | (simp [hpne, hpne']; exact hS))
      (first | (go_at_call 120
                refine (cloneB_any A c x _ (HX1.out.drewN 1) hn).mono ?_
                rintro e w2 ⟨A2, c2', rfl, hoP, hbP⟩
                have hbP := below_drew' hbP
                have hS := (B1.out.below hbP).cells3)
             | (go_at_call 120
                refine (cloneB_any A c x _ ((HX1.out.below (below_a1 _ _)).drewN 1) hn).mono ?_
                rintro e w2 ⟨A2, c2', rfl, hoP, hbP⟩
                have hbP := below_drew' hbP
                have hS := ((B1.out.alloc _).below hbP).cells3
                have hQ := (Blk.new w1 29 [.int .i64 0, .int .i64 0, .slice none 0 0]).below hbP
                obtain ⟨q0, q1, q2⟩ := hQ.cells3
                have f0 := hQ.frozen 0
                have f1 := hQ.frozen 1
                have f2 := hQ.frozen 2))
    · go_wp2_with fail
      go_meet
      obtain ⟨g2, ex, rfl, hgB, hgb⟩ := hoP (by rintro rfl; simp at hn1)
      have hgl := hgb.lt
      have hw2 := hbP.size
      exact ⟨w2.heap.size, g2, c2', rfl, hw2, hgB, by omega, Blk.new _ _ _, hoP.below (below_a1 _ _), hbP.alloc hw2 _⟩
    · go_wp2_with fail
      go_meet
      obtain ⟨g2, ex, rfl, hgB, hgb⟩ := hoP (by rintro rfl; simp at hn1)
      have hgB' : w1.heap.size + 1 ≤ g2 := by simpa using hgB
      refine ⟨w1.heap.size, g2, c2', rfl, Nat.le_refl _, by omega, by omega, ((hQ.set_ 0 _).set_ 1 _).set_ 2 _, (((hoP.setFar (by simp) _).setFar (by simp) _).setFar (by simp) _).mono (by simp), ?_⟩
      exact ((((below_a1 w1 _).trans (hbP.mono (by simp))).setCell (by simp) _).setCell (by simp) _).setCell (by simp) _
  case rest =>
    obtain ⟨q, g2, c2x, rfl, hh⟩ := hcut
    have hw1 := S1.out.size
    obtain ⟨hq1, hg1, hgq, hQ, hO, hB⟩ := hh.out
    have HQ := hid hQ
    have HO := hid hO
    have HB := hid hB
    have hks2 : Hid (∀ y ∈ keys, ∃ n : Nat, y = n ∧ n < 4294967296) := fun y hy => by
      have h2 : allB keys 0 4294967295 = true := by simp at hks; exact hks.2
      have h3 := inB_iff.1 (List.all_eq_true.1 h2 y hy)
      exact ⟨y.toNat, by omega, by omega⟩
    have hk256 : keys.length ≤ 256 := by simp at hks; omega
    clear hh hQ hO hB hks hv c0 c1 c2 hpne hpne'
    go_wp2
    go_loopw [30] (fun i wr => ∃ k : Nat, k ≤ keys.length ∧ i = .int .i64 k ∧ Hid (OwnS Value.bool wr w1.heap.size 4 (some ⟨g2, 0, none⟩) (putKeys x s x.length r (keys.take k))) ∧ Hid (TouchAll wc wr [(some ⟨g2, 0, none⟩, x.length)])) (fun i _ => keys.length - (intOf i).toNat)
    case atStart => exact ⟨0, Nat.zero_le _, rfl, by simpa [putKeys] using HO, TouchAll.of_below (Below.refl _ _) _⟩
    case round =>
      obtain ⟨k, hkr, rfl, hok, hT⟩ := hrel
      have BR := hid (HB.out.trans (hT.out.below1 HB.out.size hg1))
      have Q1 := hid (HQ.out.touchAll hT.out (by intro p hp; simp at hp; subst hp; exact .inr fun o e => by injection e with e; injection e with e; omega))
      obtain ⟨q0, q1, q2⟩ := Q1.out.cells3
      by_cases hlt : k < keys.length
      · have hi : (k : Int) < (keys.length : Int) := by omega
        obtain ⟨b1, o1, key, rfl, hck, hkk⟩ := (HK1.out.below BR.out).at_ hlt
        obtain ⟨key, rfl, hkey⟩ := hks2.out key (List.mem_of_getElem? hkk.out)
        obtain ⟨c0, c1, c2⟩ := (B1.out.below BR.out).cells3
        go_wp2_with fail
        refine (spots_any key s r x.length _ hkey (by omega) (by omega) (by omega)).mono ?_
        rintro e w2 ⟨A3, c3, rfl, hoP, hbP⟩
        have HP := hid hoP
        have O2 := hid (hok.out.below hbP)
        have Q2 := hid (Q1.out.below hbP)
        have T2 := hid (hT.out.trans1 (TouchAll.of_below hbP [(some ⟨g2, 0, none⟩, x.length)]))
        have hyl := putKeys_length x s x.length r (keys.take k)
        have HA := hid (OwnS.apart_lt hok.out hoP (Nat.le_refl _))
        rw [hyl] at HA
        have hPl := spotsL_length key s x.length r
        have hmem : Hid (∀ p ∈ spotsL key s x.length r, ∃ m : Nat, p = m ∧ m < x.length) := fun p hp' => spotsL_mem (by omega) hp'
        obtain ⟨P, hPe⟩ : ∃ P, P = spotsL key s x.length r := ⟨_, rfl⟩
        rw [← hPe] at HA HP hPl hmem ⊢
        have HPe := hid hPe
        have hP8 : P.length ≤ 8 := by omega
        clear hPe hPl hoP hbP c0 c1 c2 q0 q1 q2 hok hT Q1 BR
        go_wp2
        go_loopw [44] (fun j wi => ∃ m : Nat, m ≤ P.length ∧ j = .int .i64 m ∧ Hid (OwnS Value.bool wi w1.heap.size 4 (some ⟨g2, 0, none⟩) (putAt (putKeys x s x.length r (keys.take k)) (P.take m))) ∧ Hid (Touch w2 wi (some ⟨g2, 0, none⟩) x.length)) (fun j _ => P.length - (intOf j).toNat)
        case atStart => exact ⟨0, Nat.zero_le _, rfl, by rw [putAt_zero]; exact O2, Touch.refl⟩
        case round =>
          obtain ⟨m, hmr, rfl, hom, hTm⟩ := hrel
          by_cases hlm : m < P.length
          · have him : (m : Int) < (P.length : Int) := by omega
            obtain ⟨b3, o3, p, rfl, hcp, hpk⟩ := (HP.out.touch hTm.out HA.out).rd.at_ hlm
            obtain ⟨n, rfl, hnx⟩ := hmem.out p (List.mem_of_getElem? hpk.out)
            have hl := putAt_length (putKeys x s x.length r (keys.take k)) (P.take m)
            obtain ⟨g', u, hg', hgB, hcy, hfy, hym, hput⟩ := hom.out.put (j := n) (by omega)
            injection hg' with hg'; injection hg' with hg'
            subst hg'
            have hO2 := hput true
            rw [putAt_succ hpk] at hO2
            have hT2 := hid (hTm.out.set_ (by omega) n (.bool true))
            obtain ⟨q0, q1, q2⟩ := (Q2.out.touch hTm.out hgq).cells3
            have hn' : (n : Int) < (x.length : Int) := by omega
            have hn0 : (0 : Int) ≤ (n : Int) := by omega
            clear hput q0 q1 hl hgB
            go_wp2
            exact ⟨⟨m + 1, by omega, by go_num, hO2, hT2⟩, by simp [intOf]; omega⟩
          · have him : ¬ (m : Int) < (P.length : Int) := by omega
            have he := hom.out
            rw [List.take_of_length_le (show P.length ≤ m by omega), HPe.out, putKeys_succ hkk] at he
            have HE := hid he
            have TE := hid (T2.out.trans hTm.out)
            clear he
            go_wp2
            exact ⟨⟨k + 1, by omega, by go_num, HE, TE⟩, by simp [intOf]; omega⟩
      · have hi : ¬ (k : Int) < (keys.length : Int) := by omega
        obtain ⟨d0, d1, d2⟩ := (R1.out.below BR.out).cells3
        have f0 := (R1.out.below BR.out).frozen 0
        have f1 := (R1.out.below BR.out).frozen 1
        have f2 := (R1.out.below BR.out).frozen 2
        go_wp2
        have he := hok.out
        rw [List.take_of_length_le (by omega)] at he
        refine bodyPost_ret (v := .tuple #[.agg #[.int .i64 r, .int .i64 s, .slice (some ⟨g2, 0, none⟩) x.length c2x], .bool true]) (by simp [results, Try.results108, go_sem, d0, d1, d2]) rfl ⟨some ⟨g2, 0, none⟩, c2x, by simp [putKeys_length], ?_, by simp [putKeys_length]; omega, ?_⟩
        · exact (((he.setFar (by simp; omega) _).setFar (by simp; omega) _).setFar (by simp; omega) _).mono (by omega)
        · exact ((((S1.out.trans (BR.out.mono hw1)).setCell (by simp) _).setCell (by simp) _).setCell (by simp) _)
set_option maxHeartbeats 1600000 in
theorem iPutSieve_any (r s : Int) (A : Option Addr) (c : Nat) (x : List Bool) (key : Int) (w : World) (hr : W64 r) (hs : W64 s) (hx : RdL Value.bool w A x) (hn : x.length ≤ 1048576) (hkey : W64 key) :
    Calls Try.prog 60 #[.agg #[.int .i64 r, .int .i64 s, .slice A x.length c], .int .i64 key] w (RetSv w (pPutSieve r s x key)) := by
  have HX := hid hx
  have HK : RdL (Value.int .i64) (((w.alloc (.cells #[.int .i64 r, .int .i64 s, .slice A x.length c] 29)).alloc (.cells #[.int .i64 0, .int .i64 0, .slice none 0 0] 29)).alloc (.cells #[.int .i64 key] 2)) (some ⟨w.heap.size + 1 + 1, 0, none⟩) [key] :=
    Blk.rd0 (xs := [key]) (Blk.new3 w _ _ 2 [.int .i64 key])
  have hRes := hid ((Blk.new2 w (.cells #[.int .i64 r, .int .i64 s, .slice A x.length c] 29) 29 [.int .i64 0, .int .i64 0, .slice none 0 0]).alloc (.cells #[.int .i64 key] 2))
  obtain ⟨p, hp⟩ : ∃ p, p = pPutSieve r s x key := ⟨_, rfl⟩
  rw [← hp]
  go_enter Try.func60, Try.ntmps60
  go_wp2_with fail
  refine (iSieveOf_any r s A c x _ 1 [key] _ hr hs (HX.out.below (below_a3 _ _ _ _)) hn HK (by simp)).mono ?_
  rw [pSieveOf_one, ← hp]
  rintro e w1 ⟨A1, c1, rfl, ho, hl, hb⟩
  have R1 := hid (hRes.out.below hb)
  have S1 := below_call (below_a3 _ _ _ _) hb
  have O1 := hid (ho.mono (B' := w.heap.size + 2) (by simp))
  clear ho hb HX HK hRes hr hs hx hkey
  obtain ⟨d0, d1, d2⟩ := R1.out.cells3
  have f0 := R1.out.frozen 0
  have f1 := R1.out.frozen 1
  have f2 := R1.out.frozen 2
  go_wp2
  refine bodyPost_ret (v := .tuple #[.agg #[.int .i64 p.1.1, .int .i64 p.1.2.1, .slice A1 p.1.2.2.length c1], .bool p.2]) (by simp [results, Try.results60, go_sem, d0, d1, d2, ← hp]) rfl ⟨A1, c1, rfl, ?_, hl, ?_⟩
  · exact (((O1.out.setFar (by simp) _).setFar (by simp) _).setFar (by simp) _).mono (by omega)
  · exact ((S1.out.setCell (by simp) _).setCell (by simp) _).setCell (by simp) _
end Go.Proofs.Ytocmcghhjjhogaa
