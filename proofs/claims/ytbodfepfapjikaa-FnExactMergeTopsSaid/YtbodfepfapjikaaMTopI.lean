/-
  MergeTops of the program, by contract. Printed by gen_mtopi.py.
-/
import Derived.Test.YtbodfepfapjikaaMTopJ
import Derived.Test.YtbodfepfapjikaaDiff
namespace Go.Proofs.Ytbodfepfapjikaa
open Go.RowKit Go.Shelf
set_option linter.unusedVariables false
set_option linter.unusedSimpArgs false

set_option maxRecDepth 100000 in
set_option maxHeartbeats 6400000 in
theorem iMergeTops_any (ra : Int) (A1 : Option Addr) (c1 : Nat) (ka : List Int) (A2 : Option Addr) (c2 : Nat) (ca : List Int) (A3 : Option Addr) (c3 : Nat) (ea : List Int) (rb : Int) (B1 : Option Addr) (d1 : Nat) (kb : List Int) (B2 : Option Addr) (d2 : Nat) (cb : List Int) (B3 : Option Addr) (d3 : Nat) (eb : List Int) (w : World) (hra : W64 ra) (hka : RdL (Value.int .i64) w A1 ka) (hnka : ka.length ≤ 1048576) (weka : ∀ y ∈ ka, W64 y) (hca : RdL (Value.int .i64) w A2 ca) (hnca : ca.length ≤ 1048576) (weca : ∀ y ∈ ca, W64 y) (hea : RdL (Value.int .i64) w A3 ea) (hnea : ea.length ≤ 1048576) (weea : ∀ y ∈ ea, W64 y) (hrb : W64 rb) (hkb : RdL (Value.int .i64) w B1 kb) (hnkb : kb.length ≤ 1048576) (wekb : ∀ y ∈ kb, W64 y) (hcb : RdL (Value.int .i64) w B2 cb) (hncb : cb.length ≤ 1048576) (wecb : ∀ y ∈ cb, W64 y) (heb : RdL (Value.int .i64) w B3 eb) (hneb : eb.length ≤ 1048576) (weeb : ∀ y ∈ eb, W64 y) :
    Calls Try.prog 40 #[.agg #[.int .i64 ra, .slice A1 ka.length c1, .slice A2 ca.length c2, .slice A3 ea.length c3], .agg #[.int .i64 rb, .slice B1 kb.length d1, .slice B2 cb.length d2, .slice B3 eb.length d3]] w (RetTp w (pMergeTops ra ka ca ea rb kb cb eb)) := by
  have CVA := hid (fun (w' : World) (hb : Below w.heap.size w w') => ValidTops_any ra A1 c1 ka A2 c2 ca A3 c3 ea w' hra (hka.below hb) hnka weka (hca.below hb) hnca weca (hea.below hb) hnea weea)
  have CVB := hid (fun (w' : World) (hb : Below w.heap.size w w') => ValidTops_any rb B1 d1 kb B2 d2 cb B3 d3 eb w' hrb (hkb.below hb) hnkb wekb (hcb.below hb) hncb wecb (heb.below hb) hneb weeb)
  have HKA := hid hka
  have HCA := hid hca
  have HEA := hid hea
  have HKB := hid hkb
  have HCB := hid hcb
  have HEB := hid heb
  have WKA := hid weka
  have WKB := hid wekb
  have BA0 := hid (((Blk.new w 33 [.int .i64 ra, .slice A1 ka.length c1, .slice A2 ca.length c2, .slice A3 ea.length c3]).alloc (.cells #[.int .i64 rb, .slice B1 kb.length d1, .slice B2 cb.length d2, .slice B3 eb.length d3] 33)).alloc (.cells #[.int .i64 0, .slice none 0 0, .slice none 0 0, .slice none 0 0] 33))
  have BB0 := hid ((Blk.new2 w (.cells #[.int .i64 ra, .slice A1 ka.length c1, .slice A2 ca.length c2, .slice A3 ea.length c3] 33) 33 [.int .i64 rb, .slice B1 kb.length d1, .slice B2 cb.length d2, .slice B3 eb.length d3]).alloc (.cells #[.int .i64 0, .slice none 0 0, .slice none 0 0, .slice none 0 0] 33))
  have R0 := hid (Blk.new3 w (.cells #[.int .i64 ra, .slice A1 ka.length c1, .slice A2 ca.length c2, .slice A3 ea.length c3] 33) (.cells #[.int .i64 rb, .slice B1 kb.length d1, .slice B2 cb.length d2, .slice B3 eb.length d3] 33) 33 [.int .i64 0, .slice none 0 0, .slice none 0 0, .slice none 0 0])
  have S0 : Hid (Below w.heap.size w (((w.alloc (.cells #[.int .i64 ra, .slice A1 ka.length c1, .slice A2 ca.length c2, .slice A3 ea.length c3] 33)).alloc (.cells #[.int .i64 rb, .slice B1 kb.length d1, .slice B2 cb.length d2, .slice B3 eb.length d3] 33)).alloc (.cells #[.int .i64 0, .slice none 0 0, .slice none 0 0, .slice none 0 0] 33))) := below_a3 _ _ _ _
  clear hka hca hea hkb hcb heb weka weca weea wekb wecb weeb
  cases hva : vTops ra ka ca ea with
  | false =>
    have hp : pMergeTops ra ka ca ea rb kb cb eb = ((0, [], [], []), false) := by simp [pMergeTops, hva]
    rw [hp]
    clear hp
    refine Calls.mono ?_ retTp_no
    go_enter Try.func40, Try.ntmps40
    obtain ⟨k0, k1, k2, k3⟩ := BA0.out.cells4
    go_wp2_with fail
    refine (CVA.out _ S0.out).mono ?_
    rw [hva]
    rintro e w1 ⟨rfl, hb⟩
    have BA1 := hid (BA0.out.below hb)
    have BB1 := hid (BB0.out.below hb)
    have R1 := hid (R0.out.below hb)
    have S1 : Hid (Below w.heap.size w w1) := S0.out.trans (hb.mono S0.out.size)
    clear hb k0 k1 k2 k3 BA0 BB0 R0 S0
    have hsz3 : w.heap.size + 3 ≤ w1.heap.size := by have h := R1.out.lt; omega
    obtain ⟨d0, d1, d2, d3⟩ := R1.out.cells4
    have f0 := R1.out.frozen 0
    have f1 := R1.out.frozen 1
    have f2 := R1.out.frozen 2
    have f3 := R1.out.frozen 3
    clear CVA CVB
    go_wp2
    refine bodyPost_ret (v := .tuple #[.agg #[.int .i64 0, .slice none 0 0, .slice none 0 0, .slice none 0 0], .bool false]) (by simp [results, Try.results40, go_sem, d0, d1, d2, d3]) rfl ⟨rfl, ?_⟩
    exact (((S1.out.setCell (by simp <;> omega) _).setCell (by simp <;> omega) _).setCell (by simp <;> omega) _).setCell (by simp <;> omega) _
  | true =>
  cases hvb : vTops rb kb cb eb with
  | false =>
    have hp : pMergeTops ra ka ca ea rb kb cb eb = ((0, [], [], []), false) := by simp [pMergeTops, hvb]
    rw [hp]
    clear hp
    refine Calls.mono ?_ retTp_no
    go_enter Try.func40, Try.ntmps40
    obtain ⟨k0, k1, k2, k3⟩ := BA0.out.cells4
    go_wp2_with fail
    refine (CVA.out _ S0.out).mono ?_
    rw [hva]
    rintro e w1 ⟨rfl, hb⟩
    have BA1 := hid (BA0.out.below hb)
    have BB1 := hid (BB0.out.below hb)
    have R1 := hid (R0.out.below hb)
    have S1 : Hid (Below w.heap.size w w1) := S0.out.trans (hb.mono S0.out.size)
    clear hb k0 k1 k2 k3 BA0 BB0 R0 S0
    obtain ⟨k0, k1, k2, k3⟩ := BB1.out.cells4
    go_wp2_with fail
    refine (CVB.out _ S1.out).mono ?_
    rw [hvb]
    rintro e w2 ⟨rfl, hb⟩
    have BA2 := hid (BA1.out.below hb)
    have BB2 := hid (BB1.out.below hb)
    have R2 := hid (R1.out.below hb)
    have S2 : Hid (Below w.heap.size w w2) := S1.out.trans (hb.mono S1.out.size)
    clear hb k0 k1 k2 k3 BA1 BB1 R1 S1
    have R1 := R2
    have S1 := S2
    have hsz3 : w.heap.size + 3 ≤ w2.heap.size := by have h := R1.out.lt; omega
    obtain ⟨d0, d1, d2, d3⟩ := R1.out.cells4
    have f0 := R1.out.frozen 0
    have f1 := R1.out.frozen 1
    have f2 := R1.out.frozen 2
    have f3 := R1.out.frozen 3
    clear CVA CVB
    go_wp2
    refine bodyPost_ret (v := .tuple #[.agg #[.int .i64 0, .slice none 0 0, .slice none 0 0, .slice none 0 0], .bool false]) (by simp [results, Try.results40, go_sem, d0, d1, d2, d3]) rfl ⟨rfl, ?_⟩
    exact (((S1.out.setCell (by simp <;> omega) _).setCell (by simp <;> omega) _).setCell (by simp <;> omega) _).setCell (by simp <;> omega) _
  | true =>
  by_cases hr : ra = rb
  case neg =>
    have hrb : (ra == rb) = false := by simp [hr]
    have hrb2 : (ra != rb) = true := by simp [hr]
    have hp : pMergeTops ra ka ca ea rb kb cb eb = ((0, [], [], []), false) := by simp [pMergeTops, hrb]
    rw [hp]
    clear hp
    refine Calls.mono ?_ retTp_no
    clear hr
    go_enter Try.func40, Try.ntmps40
    obtain ⟨k0, k1, k2, k3⟩ := BA0.out.cells4
    go_wp2_with fail
    refine (CVA.out _ S0.out).mono ?_
    rw [hva]
    rintro e w1 ⟨rfl, hb⟩
    have BA1 := hid (BA0.out.below hb)
    have BB1 := hid (BB0.out.below hb)
    have R1 := hid (R0.out.below hb)
    have S1 : Hid (Below w.heap.size w w1) := S0.out.trans (hb.mono S0.out.size)
    clear hb k0 k1 k2 k3 BA0 BB0 R0 S0
    obtain ⟨k0, k1, k2, k3⟩ := BB1.out.cells4
    go_wp2_with fail
    refine (CVB.out _ S1.out).mono ?_
    rw [hvb]
    rintro e w2 ⟨rfl, hb⟩
    have BA2 := hid (BA1.out.below hb)
    have BB2 := hid (BB1.out.below hb)
    have R2 := hid (R1.out.below hb)
    have S2 : Hid (Below w.heap.size w w2) := S1.out.trans (hb.mono S1.out.size)
    clear hb k0 k1 k2 k3 BA1 BB1 R1 S1
    have R1 := R2
    have S1 := S2
    have hsz3 : w.heap.size + 3 ≤ w2.heap.size := by have h := R1.out.lt; omega
    obtain ⟨d0, d1, d2, d3⟩ := R1.out.cells4
    have f0 := R1.out.frozen 0
    have f1 := R1.out.frozen 1
    have f2 := R1.out.frozen 2
    have f3 := R1.out.frozen 3
    clear CVA CVB
    obtain ⟨k0, k1, k2, k3⟩ := BA2.out.cells4
    obtain ⟨l0, l1, l2, l3⟩ := BB2.out.cells4
    go_wp2
    refine bodyPost_ret (v := .tuple #[.agg #[.int .i64 0, .slice none 0 0, .slice none 0 0, .slice none 0 0], .bool false]) (by simp [results, Try.results40, go_sem, d0, d1, d2, d3]) rfl ⟨rfl, ?_⟩
    exact (((S1.out.setCell (by simp <;> omega) _).setCell (by simp <;> omega) _).setCell (by simp <;> omega) _).setCell (by simp <;> omega) _
  subst hr
  have ev := vTops_iff hva
  obtain ⟨⟨hr1, hr2⟩, hka1, -, -, -, -, hkr, hnd⟩ := ev
  obtain ⟨-, hkb1, -, -, -, -, hkrb, -⟩ := vTops_iff hvb
  have hp : pMergeTops ra ka ca ea ra kb cb eb = giveT ra ((srtU (upT ra ka ca ea ra kb cb eb) (unT ka kb kb.length)).take ra.toNat) (((srtU (upT ra ka ca ea ra kb cb eb) (unT ka kb kb.length)).take ra.toNat).map (upT ra ka ca ea ra kb cb eb)) (((srtU (upT ra ka ca ea ra kb cb eb) (unT ka kb kb.length)).take ra.toNat).map (erT ra ka ca ea ra kb cb eb)) := by simp [pMergeTops, hva, hvb]
  rw [hp]
  clear hp
  have HVA := hid hva
  have HVB := hid hvb
  obtain ⟨ba, hba⟩ : ∃ f, f = bndT ra ka ca ea := ⟨_, rfl⟩
  obtain ⟨bb, hbb_⟩ : ∃ f, f = bndT ra kb cb eb := ⟨_, rfl⟩
  obtain ⟨up, hup⟩ : ∃ f, f = upT ra ka ca ea ra kb cb eb := ⟨_, rfl⟩
  obtain ⟨er, her⟩ : ∃ f, f = erT ra ka ca ea ra kb cb eb := ⟨_, rfl⟩
  obtain ⟨K, hK⟩ : ∃ K, K = unT ka kb kb.length := ⟨_, rfl⟩
  have HBA : Hid (∀ key, 0 ≤ (ba key).1 ∧ (ba key).1 ≤ 1000000000000 ∧ 0 ≤ (ba key).2 ∧ (ba key).2 ≤ 1000000000000) := fun key => by rw [hba]; exact bndT_bd hva key
  have HBB : Hid (∀ key, 0 ≤ (bb key).1 ∧ (bb key).1 ≤ 1000000000000 ∧ 0 ≤ (bb key).2 ∧ (bb key).2 ≤ 1000000000000) := fun key => by rw [hbb_]; exact bndT_bd hvb key
  have HUP : Hid (∀ key, up key = (ba key).2 + (bb key).2) := fun key => by rw [hup, hba, hbb_]; rfl
  have HER : Hid (∀ key, er key = (ba key).2 + (bb key).2 - (ba key).1 - (bb key).1) := fun key => by rw [her, hba, hbb_]; rfl
  have HUE := hid hup
  have HKN : Hid (K.Nodup) := by rw [hK]; exact unT_nodup hnd _
  have HKW : Hid (∀ y ∈ K, W64 y) := by
    intro y hy
    rw [hK] at hy
    rcases unT_sub hy (Nat.le_refl _) with h | h
    · exact WKA.out y h
    · exact WKB.out y h
  have HKL : Hid (K.length ≤ 64) := by show _ ≤ _; rw [hK]; have := unT_length ka kb kb.length; omega
  rw [← hup, ← her, ← hK]
  obtain ⟨SK, hSK⟩ : ∃ S, S = srtU up K := ⟨_, rfl⟩
  rw [← hSK]
  have HSK := hid hSK
  clear hSK
  obtain ⟨KF, hKF⟩ : ∃ f, f = SK.take ra.toNat := ⟨_, rfl⟩
  rw [← hKF]
  obtain ⟨CF, hCF⟩ : ∃ f, f = KF.map up := ⟨_, rfl⟩
  obtain ⟨EF, hEF⟩ : ∃ f, f = KF.map er := ⟨_, rfl⟩
  rw [← hCF, ← hEF]
  have KFE := hid hKF
  have CFE := hid hCF
  have EFE := hid hEF
  clear hKF hCF hEF
  have HKE := hid hK
  have HBAE := hid hba
  have HBBE := hid hbb_
  clear hba hbb_ hup her hK hva hvb hkr hkrb hnd
  go_enter Try.func40, Try.ntmps40
  obtain ⟨k0, k1, k2, k3⟩ := BA0.out.cells4
  go_wp2_with fail
  refine (CVA.out _ S0.out).mono ?_
  rw [HVA.out]
  rintro e w1 ⟨rfl, hb⟩
  have BA1 := hid (BA0.out.below hb)
  have BB1 := hid (BB0.out.below hb)
  have R1 := hid (R0.out.below hb)
  have S1 : Hid (Below w.heap.size w w1) := S0.out.trans (hb.mono S0.out.size)
  clear hb k0 k1 k2 k3 BA0 BB0 R0 S0
  obtain ⟨k0, k1, k2, k3⟩ := BB1.out.cells4
  go_wp2_with fail
  refine (CVB.out _ S1.out).mono ?_
  rw [HVB.out]
  rintro e w2 ⟨rfl, hb⟩
  have BA2 := hid (BA1.out.below hb)
  have BB2 := hid (BB1.out.below hb)
  have R2 := hid (R1.out.below hb)
  have S2 : Hid (Below w.heap.size w w2) := S1.out.trans (hb.mono S1.out.size)
  clear hb k0 k1 k2 k3 BA1 BB1 R1 S1
  have hsz3 : w.heap.size + 3 ≤ w2.heap.size := by have h := R2.out.lt; omega
  have HTA : Hid (TpB w2 w.heap.size ra ka ca ea) := ⟨⟨A1, c1, A2, c2, A3, c3, BA2.out.cells4, HKA.out.below S2.out, HCA.out.below S2.out, HEA.out.below S2.out⟩, HVA.out⟩
  have HTB : Hid (TpB w2 (w.heap.size + 1) ra kb cb eb) := ⟨⟨B1, d1, B2, d2, B3, d3, BB2.out.cells4, HKB.out.below S2.out, HCB.out.below S2.out, HEB.out.below S2.out⟩, HVB.out⟩
  have CBA : Hid (∀ w' key, Below w2.heap.size w2 w' → Calls Try.prog 73 #[.agg #[.int .i64 ra, .slice A1 ka.length c1, .slice A2 ca.length c2, .slice A3 ea.length c3], .int .i64 key] w' fun en w'' => en = .returned (.tuple #[.int .i64 (ba key).1, .int .i64 (ba key).2]) ∧ Below w'.heap.size w' w'') := fun w' key hb => by
    have hS : Below w.heap.size w w' := S2.out.trans (hb.mono S2.out.size)
    rw [HBAE.out]
    exact ibounds_any ra A1 c1 ka A2 c2 ca A3 c3 ea key w' (HKA.out.below hS) (HCA.out.below hS) (HEA.out.below hS) HVA.out
  have CBB : Hid (∀ w' key, Below w2.heap.size w2 w' → Calls Try.prog 73 #[.agg #[.int .i64 ra, .slice B1 kb.length d1, .slice B2 cb.length d2, .slice B3 eb.length d3], .int .i64 key] w' fun en w'' => en = .returned (.tuple #[.int .i64 (bb key).1, .int .i64 (bb key).2]) ∧ Below w'.heap.size w' w'') := fun w' key hb => by
    have hS : Below w.heap.size w w' := S2.out.trans (hb.mono S2.out.size)
    rw [HBBE.out]
    exact ibounds_any ra B1 d1 kb B2 d2 cb B3 d3 eb key w' (HKB.out.below hS) (HCB.out.below hS) (HEB.out.below hS) HVB.out
  have KB2 := hid (HKB.out.below S2.out)
  have CL := hid (cloneV_any A1 c1 ka w2 (HKA.out.below S2.out) hnka)
  obtain ⟨k0, k1, k2, k3⟩ := BA2.out.cells4
  obtain ⟨l0, l1, l2, l3⟩ := BB2.out.cells4
  have hlw0 : w.heap.size < w2.heap.size := by omega
  have hlw1 : w.heap.size + 1 < w2.heap.size := by omega
  clear HBAE HBBE HVA HVB CVA CVB HCA HEA HCB HEB
  go_wp2_with fail
  refine CL.out.mono ?_
  rintro e w3 ⟨v3, rfl, ho3, hb3⟩
  have O3' : Hid (OwnV w3 w2.heap.size v3 (unT ka kb 0)) := ho3
  have W3 := hid hb3
  have l1' := (BB2.out.below W3.out).cells4.2.1
  clear k0 k1 k2 k3 l0 l1 l2 l3 ho3 hb3 CL
  go_wp2
  clear l1'
  go_loopw [6, 39] (fun v t wr => ∃ i : Nat, i ≤ kb.length ∧ t = .int .i64 i ∧ Hid (OwnV wr w2.heap.size v (unT ka kb i)) ∧ Hid (Below w2.heap.size w2 wr)) (fun v t _ => kb.length - (intOf t).toNat)
  case atStart => exact ⟨0, Nat.zero_le _, rfl, O3', W3⟩
  case round =>
    clear O3' W3
    obtain ⟨i, hi, rfl, hO, hW⟩ := hrel
    have hul := unT_length ka kb i
    obtain ⟨Av, cv, rfl, hoS⟩ := hO.out.ownS
    by_cases hlt : i < kb.length
    · have hil : (i : Int) < (kb.length : Int) := by omega
      have hi0 : (0 : Int) ≤ (i : Int) := by omega
      obtain ⟨b, o, y, rfl, hcy, hy⟩ := (KB2.out.below hW.out).at_ hlt
      obtain ⟨l0, l1, l2, l3⟩ := (BB2.out.below hW.out).cells4
      have CH : Hid (Calls Try.prog 91 #[.slice Av (unT ka kb i).length cv, .int .i64 y] wr fun e w' => e = .returned (.bool (hasI (unT ka kb i) y)) ∧ wr = w') := contains_any Av cv _ y wr hoS.rd (by omega)
      have hsz := hW.out.size
      have hul2 : (unT ka kb i).length ≤ 1048577 := by omega
      cases hh : hasI (unT ka kb i) y with
      | true =>
        have O4 : Hid (OwnV wr w2.heap.size (.slice Av (unT ka kb i).length cv) (unT ka kb (i + 1))) := by show OwnV _ _ _ _; rw [unT_yes hy hh]; exact hO.out
        rw [hh] at CH
        clear hh hoS hO hy
        go_wp2_with (go_at_call 91; ((with_reducible refine CH.out.mono ?_); rintro e w' ⟨rfl, rfl⟩))
        exact ⟨⟨i + 1, by omega, by go_num, O4, hW⟩, by simp [intOf]; omega⟩
      | false =>
        rw [hh] at CH
        have HH := hid hh
        clear hh hoS
        go_wp2_with (first | (go_at_call 91; ((with_reducible refine CH.out.mono ?_); rintro e w' ⟨rfl, rfl⟩)) | (at_builtin; refine app_int rfl _ _ rfl y hO.out hW.out rfl rfl hul2 hsz ?_))
        intro v' w' O4 W4 _ _
        have O5 : Hid (OwnV w' w2.heap.size v' (unT ka kb (i + 1))) := by show OwnV _ _ _ _; rw [unT_no hy HH.out]; exact O4.out
        clear O4 hO hW
        go_wp2
        exact ⟨⟨i + 1, by omega, by go_num, O5, W4⟩, by simp [intOf]; omega⟩
    · have hil : ¬ (i : Int) < (kb.length : Int) := by omega
      obtain rfl : i = kb.length := by omega
      rw [← HKE.out] at hO hoS ⊢
      obtain ⟨nk, hnk⟩ : ∃ n, n = K.length := ⟨_, rfl⟩
      rw [← hnk] at hO ⊢
      have NK : Hid (K.length = nk) := hnk.symm
      have hnk64 : nk ≤ 64 := by rw [hnk]; exact HKL.out
      obtain ⟨wk, hwk⟩ : ∃ wk, wk = wr := ⟨_, rfl⟩
      subst hwk
      have WK := hW
      have hqw : w2.heap.size ≤ wk.heap.size := hW.out.size
      have eg1 : ∀ args w, (callFunc 94 args).run Try.prog w = .ok (.enter 94 args) w := enters_of Try.func94 (by kernel_rfl) rfl
      have CS : Hid (∀ wf, FnBox wf wk.heap.size w.heap.size (w.heap.size + 1) → Below wk.heap.size wk wf → wk.heap.size + 1 = wf.heap.size → Calls Try.prog 93 #[.slice Av nk cv, .func (.func 94) #[] #[.pointer (some ⟨wk.heap.size, 0, none⟩)]] wf fun e w' => e = .returned (.tuple #[]) ∧ OwnV w' w2.heap.size (.slice Av nk cv) SK ∧ Below w2.heap.size w2 w' ∧ wk.heap.size < w'.heap.size ∧ FnBox w' wk.heap.size w.heap.size (w.heap.size + 1)) := fun wf hf hbf hsf => by
        have hbf2 : Below w2.heap.size w2 wf := WK.out.trans (hbf.mono hqw)
        refine (sortOwn_any w2.heap.size (.slice Av nk cv) K 94 #[.pointer (some ⟨wk.heap.size, 0, none⟩)] (fun x y => cmpI (up y) (up x)) (RelU up K) (fun _ => True) wf (RelU.tr HKN.out) (hO.out.below hbf) (by have := NK.out; omega) (fun _ _ => trivial) (by rw [show ltC (fun x y => cmpI (up y) (up x)) = ltU up from funext fun a => funext fun b => cfU_lt up a b]; exact cr_nodup) (by omega) (fun g hg1 hg2 hg3 => ⟨eg1, Nat.le_refl _, fun w' hb' u v _ _ => ?_⟩)).mono ?_
        · have hgk : g < wk.heap.size := (hO.out.lt g hg2).1
          have hb2 : Below w2.heap.size w2 w' := hbf2.trans (hb'.belowJ hg1 hbf2.size)
          have hfb : FnBox w' wk.heap.size w.heap.size (w.heap.size + 1) := by
            have hlt := World.block_lt_of_cell? wf _ hf
            have hblk := hb'.block wk.heap.size hlt (by omega)
            unfold FnBox at hf ⊢
            unfold World.cell? at hf ⊢
            rw [hblk]; exact hf
          have h := cmpUp_any wk.heap.size w.heap.size (w.heap.size + 1) ra ka ca ea ra kb cb eb u v w' hfb (HTA.out.below hb2) (HTB.out.below hb2)
          rw [← HUE.out] at h
          exact h
        · rintro e w' ⟨M, rfl, hm, hO', hb', hs', hk'⟩
          have hM : M = SK := by rw [HSK.out]; exact srtU_of HKN.out hm
          subst hM
          refine ⟨rfl, hO', hbf2.trans (hb'), by omega, ?_⟩
          have hlt := World.block_lt_of_cell? wf _ hf
          have hblk := hk' wk.heap.size hlt (fun e => by have := (hO.out.lt _ e).1; omega)
          unfold FnBox at hf ⊢
          unfold World.cell? at hf ⊢
          rw [hblk]; exact hf
      clear hO hoS hul hlt hW hi hnk
      obtain ⟨k0, k1, k2, k3⟩ := (BA2.out.below WK.out).cells4
      have hsf := fun (a : Addr) (c : Array Value) (w : World) => run_store Try.prog w a (.func (.func 92) #[] c) .plain rfl
      go_wp2_with fail
      refine (CS.out _ ?_ ?_ ?_).mono ?_
      · show World.cell? _ _ = _; simp
      · exact below_a1 _ _
      · simp
      clear hsf
      rintro e w5 ⟨rfl, hO5, hb5, hs5, hf5⟩
      have O5 := hid hO5
      have W5 := hid hb5
      have FB : Hid (w5.cell? ⟨wk.heap.size, 0, none⟩ = some (.func (.func 92) #[] #[.pointer (some ⟨w.heap.size, 0, none⟩), .pointer (some ⟨w.heap.size + 1, 0, none⟩)])) := hf5
      have hw5k : wk.heap.size < w5.heap.size := hs5
      have RK := hid (OwnV.rdJ hO5)
      have NSK : Hid (SK.length = nk) := hO5.cap.2.2.symm
      obtain ⟨nf, hnf⟩ : ∃ nf, nf = min ra.toNat nk := ⟨_, rfl⟩
      have hKF : Hid (KF = SK.take nf) := by
        show _ = _
        rw [KFE.out, hnf]
        rcases Nat.le_total ra.toNat nk with h | h
        · rw [Nat.min_eq_left h]
        · rw [Nat.min_eq_right h, List.take_of_length_le (by rw [NSK.out]; exact h), List.take_of_length_le (by rw [NSK.out]; exact Nat.le_refl _)]
      have hnfk : nf ≤ nk := by omega
      have hcap1 := hO5.cap.1
      have s1 : (nf : Int) ≤ (cv : Int) := by have := NSK.out; omega
      have s0 : (0 : Int) ≤ (nf : Int) := by omega
      have hmin : min (nk : Int) ra = (nf : Int) := by omega
      have hmin2 : (if (nk : Int) ≤ ra then (nk : Int) else ra) = (nf : Int) := by split <;> omega
      have BA5 := hid (BA2.out.below W5.out)
      have BB5 := hid (BB2.out.below W5.out)
      have hqw5 : w2.heap.size ≤ w5.heap.size := W5.out.size
      have CKa : Hid (∀ w' key, Below w5.heap.size w5 w' → Calls Try.prog 73 #[.agg #[.int .i64 ra, .slice A1 ka.length c1, .slice A2 ca.length c2, .slice A3 ea.length c3], .int .i64 key] w' fun en w'' => en = .returned (.tuple #[.int .i64 (ba key).1, .int .i64 (ba key).2]) ∧ Below w'.heap.size w' w'') := fun w' key hb => CBA.out w' key (W5.out.trans (hb.mono hqw5))
      have CKb : Hid (∀ w' key, Below w5.heap.size w5 w' → Calls Try.prog 73 #[.agg #[.int .i64 ra, .slice B1 kb.length d1, .slice B2 cb.length d2, .slice B3 eb.length d3], .int .i64 key] w' fun en w'' => en = .returned (.tuple #[.int .i64 (bb key).1, .int .i64 (bb key).2]) ∧ Below w'.heap.size w' w'') := fun w' key hb => CBB.out w' key (W5.out.trans (hb.mono hqw5))
      have CUP : Hid (∀ w', Below w5.heap.size w5 w' → ∀ key, Calls Try.prog 92 #[.int .i64 key, .pointer (some ⟨w.heap.size, 0, none⟩), .pointer (some ⟨w.heap.size + 1, 0, none⟩)] w' fun e w'' => e = .returned (.int .i64 (up key)) ∧ Below w'.heap.size w' w'') := fun w' hb key => by
        have hb2 : Below w2.heap.size w2 w' := W5.out.trans (hb.mono hqw5)
        rw [HUE.out]
        exact upper_any w.heap.size (w.heap.size + 1) ra ka ca ea ra kb cb eb key w' (HTA.out.below hb2) (HTB.out.below hb2)
      have TS0 := hid (TpS.start w5 ra)
      clear k0 k1 k2 k3 hO5 hb5 hf5 hs5 CS CBA CBB hnf hcap1
      obtain ⟨k0, k1, k2, k3⟩ := BA5.out.cells4
      have hw5 : w.heap.size < w5.heap.size := by omega
      go_wp2
      clear k0 k1 k2 k3
      go_loopw [67] (fun t wq => ∃ (i : Nat) (vK vC vE : Value), i ≤ nf ∧ t = .int .i64 i ∧ Hid (TpS wq w5.heap.size ra vK vC vE (SK.take i) ((SK.take i).map up) ((SK.take i).map er)) ∧ Hid (Below w5.heap.size w5 wq) ∧ w5.heap.size < wq.heap.size) (fun t _ => nf - (intOf t).toNat)
      case atStart => exact ⟨0, _, _, _, Nat.zero_le _, rfl, TS0, below_a1 _ _, by simp⟩
      case round =>
        obtain ⟨i, vK, vC, vE, hi, rfl, hT, hX, hqr⟩ := hrel
        obtain ⟨L, hL⟩ : ∃ L, L = SK.take i := ⟨_, rfl⟩
        have HL := hid hL
        have hLn : L.length = i := by rw [hL, List.length_take, NSK.out]; omega
        rw [← hL] at hT
        clear hL
        obtain ⟨AK, cK, hvK, -⟩ := hT.out.k.ownS
        obtain ⟨AC, cC, hvC, -⟩ := hT.out.c.ownS
        obtain ⟨AE, cE, hvE, -⟩ := hT.out.e.ownS
        rw [List.length_map] at hvC hvE
        rw [hLn] at hvK hvC hvE
        subst hvK hvC hvE
        have hi64 : i ≤ 64 := by omega
        by_cases hlt : i < nf
        · have hil : (i : Int) < (nf : Int) := by omega
          have hi0 : (0 : Int) ≤ (i : Int) := by omega
          obtain ⟨b, o, y, hAv, hcyw, hy⟩ := RK.out.at_ (k := i) (by rw [NSK.out]; omega)
          subst hAv
          have hcy : wr.cell? ⟨b, o + i, none⟩ = some (.int .i64 y) := (hX.out.cell (World.block_lt_of_cell? _ _ hcyw)).trans hcyw
          clear hcyw
          obtain ⟨la, hla⟩ : ∃ z, z = (ba y).1 := ⟨_, rfl⟩
          obtain ⟨ha, hha⟩ : ∃ z, z = (ba y).2 := ⟨_, rfl⟩
          obtain ⟨lb, hlb⟩ : ∃ z, z = (bb y).1 := ⟨_, rfl⟩
          obtain ⟨hb, hhb⟩ : ∃ z, z = (bb y).2 := ⟨_, rfl⟩
          obtain ⟨uy, huy⟩ : ∃ z, z = up y := ⟨_, rfl⟩
          have h1 := HBA.out y
          have h2 := HBB.out y
          have h3 := HUP.out y
          have h4 := HER.out y
          have C1 := CKa.out wr y hX.out
          have C2 := fun w' h => CKb.out w' y h
          rw [← hla, ← hha] at C1 h1
          rw [← hlb, ← hhb] at C2 h2
          rw [← hha, ← hhb, ← huy] at h3
          rw [← hla, ← hha, ← hlb, ← hhb] at h4
          have ERY : Hid (er y = uy - la - lb) := by show _ = _; omega
          have UYE := hid huy
          have a2_ : IntKind.i64.wrap (uy - la) = uy - la := by rw [IntKind.wrap_i64]; omega
          have a3_ : IntKind.i64.wrap (uy - la - lb) = uy - la - lb := by rw [IntKind.wrap_i64]; omega
          have C1H := hid C1
          have C2H := hid C2
          obtain ⟨k0, k1, k2, k3⟩ := (BA5.out.below hX.out).cells4
          clear hla hha hlb hhb h1 h2 h3 h4 C1 C2 huy
          go_wp2_with fail
          refine C1H.out.mono ?_
          rintro e w6 ⟨rfl, hb6⟩
          have X6 : Hid (Below w5.heap.size w5 w6) := hX.out.trans (hb6.mono hX.out.size)
          have T6 := hid (hT.out.below hb6)
          have hq6 : w5.heap.size < w6.heap.size := Nat.lt_of_lt_of_le hqr hb6.size
          clear hb6 hT hqr hX hcy k0 k1 k2 k3 C1H
          obtain ⟨k0, k1, k2, k3⟩ := (BB5.out.below X6.out).cells4
          go_wp2_with fail
          refine (C2H.out _ X6.out).mono ?_
          rintro e w7 ⟨rfl, hb7⟩
          have X7 : Hid (Below w5.heap.size w5 w7) := X6.out.trans (hb7.mono X6.out.size)
          have T7 := hid (T6.out.below hb7)
          have hq7 : w5.heap.size + 1 ≤ w7.heap.size := Nat.lt_of_lt_of_le hq6 hb7.size
          clear hb7 T6 X6 hq6 k0 k1 k2 k3 C2H
          obtain ⟨n1, hn1⟩ : ∃ n1, n1 = i + 1 := ⟨_, rfl⟩
          have NL : Hid (L.length + 1 = n1) := by show _ = _; omega
          have NL2 : Hid (i + 1 = n1) := by show _ = _; omega
          have hLl : L.length ≤ 1048577 := by omega
          clear hn1
          obtain ⟨b0, b1, b2, b3⟩ := T7.out.cells
          go_wp2_with (at_builtin; refine app_int rfl _ _ rfl y T7.out.k (Below.refl (w5.heap.size + 1) w7) rfl rfl hLl hq7 ?_)
          intro v1 w8 O8 W8 hg8 K8
          obtain ⟨gK, cK2, -, hvK, hgK, -, -, -, -, -⟩ := O8.out.put (j := 0) (by simp)
          rw [List.length_append, List.length_singleton, NL.out] at hvK
          subst hvK
          have T8 := hid (T7.out.fieldK O8.out K8.out W8.out)
          have X8_ : Hid (Below w5.heap.size w5 w8) := X7.out.trans (W8.out.mono (Nat.le_succ _))
          have X8 : Hid (Below w5.heap.size w5 (w8.setCell ⟨w5.heap.size, 1, none⟩ (.slice (some ⟨gK, 0, none⟩) n1 cK2))) := X8_.out.setCell (p := ⟨w5.heap.size, 1, none⟩) (Nat.le_refl _) _
          have hq8 : w5.heap.size + 1 ≤ (w8.setCell ⟨w5.heap.size, 1, none⟩ (.slice (some ⟨gK, 0, none⟩) n1 cK2)).heap.size := by have := hg8.out; simp; omega
          have B8 : Blk w8 w5.heap.size 33 _ := (W8.out.block _ (Nat.lt_succ_self _)).trans T7.out.box
          obtain ⟨y0, y1, y2, y3⟩ := B8.cells4
          have yf := B8.frozen 1
          clear O8 K8 W8 hg8 X8_ b0 b1 b2 b3
          go_wp2
          clear y0 y1 y2 y3 yf B8
          generalize (w8.setCell ⟨w5.heap.size, 1, none⟩ (.slice (some ⟨gK, 0, none⟩) n1 cK2)) = wg at T8 X8 hq8 ⊢
          obtain ⟨q0, q1, q2, q3⟩ := T8.out.cells
          have hfx : wg.cell? ⟨wk.heap.size, 0, none⟩ = some (.func (.func 92) #[] #[.pointer (some ⟨w.heap.size, 0, none⟩), .pointer (some ⟨w.heap.size + 1, 0, none⟩)]) := (X8.out.cell (p := ⟨wk.heap.size, 0, none⟩) hw5k).trans FB.out
          clear T7 X7 hq7
          go_region_law (first
            | (go_simp
               go_at_call 92
               refine (CUP.out _ (by first | exact X8.out | exact below_drew1 X8.out) y).mono ?_
               rw [← UYE.out]
               rintro e wc ⟨rfl, hbc⟩
               have hbc := below_drew' hbc
               have Tc := hid (T8.out.below hbc)
               have Xc : Hid (Below w5.heap.size w5 wc) := X8.out.trans (hbc.mono X8.out.size)
               have hqc : w5.heap.size + 1 ≤ wc.heap.size := Nat.le_trans hq8 hbc.size
               obtain ⟨p0, p1, p2, p3⟩ := Tc.out.cells
               obtain ⟨r0, r1, r2, r3⟩ := (Tc.out.below (below_a1 wc (.cells #[.int .i64 (uy)] 2))).cells
               clear hbc)
            | (refine step_app_keep (by rfl) _ _ (by rfl) (uy) wc.heap.size (Tc.out.below (below_a1 wc (.cells #[.int .i64 (uy)] 2))).c (Blk.new wc 2 [.int .i64 (uy)]) (by rfl) (by rfl) (by rw [List.length_map]; exact hLl) (by simp; omega) (h := ?_)
               intro v' w' O' W' K'
               obtain ⟨g', cap', -, hv', hgq', hgl', -, -, -, -⟩ := O'.out.put (j := 0) (by simp)
               rw [List.length_append, List.length_singleton, List.length_map, NL.out] at hv'
               subst hv'
               have Bn : Blk w' w5.heap.size 33 _ := (W'.out.block _ (Nat.lt_succ_self _)).trans (Tc.out.below (below_a1 wc (.cells #[.int .i64 (uy)] 2))).box
               obtain ⟨y0, y1, y2, y3⟩ := Bn.cells4
               have yf := Bn.frozen 2))
          all_goals
            have Tn := hid ((Tc.out.below (below_a1 wc (.cells #[.int .i64 (uy)] 2))).fieldC O'.out K'.out W'.out)
            have Wa : Hid (Below w5.heap.size w5 (wc.alloc (.cells #[.int .i64 (uy)] 2))) := Xc.out.alloc Xc.out.size _
            have Xn : Hid (Below w5.heap.size w5 w') := Wa.out.trans (W'.out.mono (Nat.le_succ _))
            have hqn : w5.heap.size + 1 ≤ w'.heap.size := by have h := W'.out.size; simp at h; omega
            clear O' K' W' Wa p0 p1 p2 p3 r0 r1 r2 r3 Tc Xc hqc
            obtain ⟨gC, hgC⟩ : ∃ g, g = g' := ⟨_, rfl⟩
            obtain ⟨cC2, hcC2⟩ : ∃ c, c = cap' := ⟨_, rfl⟩
            subst hgC hcC2
            go_wp2
            clear y0 y1 y2 y3 yf Bn
            have T9 := Tn
            have X9 : Hid (Below w5.heap.size w5 (w'.setCell ⟨w5.heap.size, 2, none⟩ (.slice (some ⟨gC, 0, none⟩) n1 cC2))) := Xn.out.setCell (p := ⟨w5.heap.size, 2, none⟩) (Nat.le_refl _) _
            have hq9 : w5.heap.size + 1 ≤ (w'.setCell ⟨w5.heap.size, 2, none⟩ (.slice (some ⟨gC, 0, none⟩) n1 cC2)).heap.size := by simp; exact hqn
            generalize (w'.setCell ⟨w5.heap.size, 2, none⟩ (.slice (some ⟨gC, 0, none⟩) n1 cC2)) = w9 at T9 X9 hq9 ⊢
            clear Tn Xn hqn hgq' hgl'
            obtain ⟨q0, q1, q2, q3⟩ := T9.out.cells
            have hfx : w9.cell? ⟨wk.heap.size, 0, none⟩ = some (.func (.func 92) #[] #[.pointer (some ⟨w.heap.size, 0, none⟩), .pointer (some ⟨w.heap.size + 1, 0, none⟩)]) := (X9.out.cell (p := ⟨wk.heap.size, 0, none⟩) hw5k).trans FB.out
            go_region_law (first
              | (go_simp
                 go_at_call 92
                 refine (CUP.out _ (by first | exact X9.out | exact below_drew1 X9.out) y).mono ?_
                 rw [← UYE.out]
                 rintro e wc ⟨rfl, hbc⟩
                 have hbc := below_drew' hbc
                 have Tc := hid (T9.out.below hbc)
                 have Xc : Hid (Below w5.heap.size w5 wc) := X9.out.trans (hbc.mono X9.out.size)
                 have hqc : w5.heap.size + 1 ≤ wc.heap.size := Nat.le_trans hq9 hbc.size
                 obtain ⟨p0, p1, p2, p3⟩ := Tc.out.cells
                 obtain ⟨r0, r1, r2, r3⟩ := (Tc.out.below (below_a1 wc (.cells #[.int .i64 (uy - la - lb)] 2))).cells
                 clear hbc)
              | (refine step_app_keep (by rfl) _ _ (by rfl) (uy - la - lb) wc.heap.size (Tc.out.below (below_a1 wc (.cells #[.int .i64 (uy - la - lb)] 2))).e (Blk.new wc 2 [.int .i64 (uy - la - lb)]) (by rfl) (by rfl) (by rw [List.length_map]; exact hLl) (by simp; omega) (h := ?_)
                 intro v' w' O' W' K'
                 obtain ⟨g', cap', -, hv', hgq', hgl', -, -, -, -⟩ := O'.out.put (j := 0) (by simp)
                 rw [List.length_append, List.length_singleton, List.length_map, NL.out] at hv'
                 subst hv'
                 have Bn : Blk w' w5.heap.size 33 _ := (W'.out.block _ (Nat.lt_succ_self _)).trans (Tc.out.below (below_a1 wc (.cells #[.int .i64 (uy - la - lb)] 2))).box
                 obtain ⟨y0, y1, y2, y3⟩ := Bn.cells4
                 have yf := Bn.frozen 3))
            all_goals
              have Tn := hid ((Tc.out.below (below_a1 wc (.cells #[.int .i64 (uy - la - lb)] 2))).fieldE O'.out K'.out W'.out)
              have Wa : Hid (Below w5.heap.size w5 (wc.alloc (.cells #[.int .i64 (uy - la - lb)] 2))) := Xc.out.alloc Xc.out.size _
              have Xn : Hid (Below w5.heap.size w5 w') := Wa.out.trans (W'.out.mono (Nat.le_succ _))
              have hqn : w5.heap.size + 1 ≤ w'.heap.size := by have h := W'.out.size; simp at h; omega
              clear O' K' W' Wa p0 p1 p2 p3 r0 r1 r2 r3 Tc Xc hqc
              have TF : Hid (TpS (w'.setCell ⟨w5.heap.size, 3, none⟩ (.slice (some ⟨g', 0, none⟩) n1 cap')) w5.heap.size ra (.slice (some ⟨gK, 0, none⟩) n1 cK2) (.slice (some ⟨gC, 0, none⟩) n1 cC2) (.slice (some ⟨g', 0, none⟩) n1 cap') (SK.take (i + 1)) ((SK.take (i + 1)).map up) ((SK.take (i + 1)).map er)) := by
                show TpS _ _ _ _ _ _ _ _ _
                have h1 : SK.take (i + 1) = L ++ [y] := by rw [List.take_add_one, hy.out, ← HL.out]; rfl
                have h2 : er y = uy - la - lb := ERY.out
                rw [h1, List.map_append, List.map_append, List.map_singleton, List.map_singleton, h2, ← UYE.out]
                exact Tn.out
              have XF : Hid (Below w5.heap.size w5 (w'.setCell ⟨w5.heap.size, 3, none⟩ (.slice (some ⟨g', 0, none⟩) n1 cap'))) := Xn.out.setCell (p := ⟨w5.heap.size, 3, none⟩) (Nat.le_refl _) _
              have hqF : w5.heap.size < (w'.setCell ⟨w5.heap.size, 3, none⟩ (.slice (some ⟨g', 0, none⟩) n1 cap')).heap.size := by simp; omega
              clear Tn Xn hqn
              go_wp2
              clear y0 y1 y2 y3 yf Bn a2_ a3_
              exact ⟨⟨i + 1, _, _, _, hlt, by go_num, TF, XF, hqF⟩, by simp [intOf]; omega⟩

        · have hil : ¬ (i : Int) < (nf : Int) := by omega
          have hie : i = nf := by omega
          have hLK : L = KF := by rw [HL.out, hie, hKF.out]
          have TF : Hid (TpS wr w5.heap.size ra (.slice AK i cK) (.slice AC i cC) (.slice AE i cE) KF CF EF) := by show TpS _ _ _ _ _ _ _ _ _; rw [EFE.out, CFE.out, ← hLK]; exact hT.out
          have nK : Hid (KF.length = i) := by show _ = _; rw [← hLK]; exact hLn
          have nC : Hid (CF.length = i) := by show _ = _; rw [CFE.out, List.length_map]; exact nK.out
          have nE : Hid (EF.length = i) := by show _ = _; rw [EFE.out, List.length_map]; exact nK.out
          have wK : ∀ y ∈ KF, W64 y := fun y hy => by
            rw [hKF.out] at hy
            have h1 := List.mem_of_mem_take hy
            rw [HSK.out] at h1
            exact HKW.out y ((srtU_mem HKN.out).1 h1)
          have wC : ∀ y ∈ CF, W64 y := fun y hy => by
            rw [CFE.out] at hy
            obtain ⟨z, -, rfl⟩ := List.mem_map.1 hy
            have h1 := HBA.out z
            have h2 := HBB.out z
            rw [HUP.out]
            exact w64J (by omega)
          have wE : ∀ y ∈ EF, W64 y := fun y hy => by
            rw [EFE.out] at hy
            obtain ⟨z, -, rfl⟩ := List.mem_map.1 hy
            have h1 := HBA.out z
            have h2 := HBB.out z
            rw [HER.out]
            exact w64J (by omega)
          obtain ⟨A1', c1', hv1, oK⟩ := TF.out.k.ownS
          obtain ⟨A2', c2', hv2, oC⟩ := TF.out.c.ownS
          obtain ⟨A3', c3', hv3, oE⟩ := TF.out.e.ownS
          injection hv1 with hv1 q1 u1
          injection hv2 with hv2 q2 u2
          injection hv3 with hv3 q3 u3
          clear q1 q2 q3
          subst hv1 u1 hv2 u2 hv3 u3
          have OK_ := hid oK
          have OC_ := hid oC
          have OE_ := hid oE
          have P1 : Hid (Apart AK KF.length AC CF.length) := aptV_apart2 TF.out.kc
          have P2 : Hid (Apart AK KF.length AE EF.length) := aptV_apart2 TF.out.ke
          have P3 : Hid (Apart AC CF.length AE EF.length) := aptV_apart2 TF.out.ce
          have CI : Hid (Calls Try.prog 96 #[.agg #[.int .i64 ra, .slice AK i cK, .slice AC i cC, .slice AE i cE]] wr fun en w' => ∃ b0 B1 m1 d1 B2 m2 d2 B3 m3 d3 t,
              en = .returned (.tuple #[.agg #[.int .i64 b0, .slice B1 m1 d1, .slice B2 m2 d2, .slice B3 m3 d3], .bool t]) ∧ GiveTp ra KF CF EF AK i cK AC i cC AE i cE b0 B1 m1 d1 B2 m2 d2 B3 m3 d3 t ∧ Below wr.heap.size wr w') := by
            have h := ifTops_any ra AK cK KF AC cC CF AE cE EF wr hra oK.rd (by rw [nK.out]; omega) wK oC.rd (by rw [nC.out]; omega) wC oE.rd (by rw [nE.out]; omega) wE
            rw [nK.out, nC.out, nE.out] at h
            exact h
          obtain ⟨b0, b1, b2, b3⟩ := TF.out.cells
          have hrz : w.heap.size + 3 ≤ w5.heap.size := by omega
          have XW := hid (W5.out.trans (hX.out.mono hqw5))
          clear hLK hT HL hLn wK wC wE oK oC oE hie hlt hi hX
          go_wp2_with fail
          refine CI.out.mono ?_
          rintro en w10 ⟨z0, Z1, m1, y1, Z2, m2, y2, Z3, m3, y3, t, hen, hG, hbw⟩
          have XW2 := hid (XW.out.trans (hbw.mono XW.out.size))
          have R10 := hid (R2.out.below XW2.out)
          have S10 : Hid (Below w.heap.size w w10) := S2.out.trans (XW2.out.mono S2.out.size)
          have K10 := hid (OK_.out.below hbw)
          have C10 := hid (OC_.out.below hbw)
          have E10 := hid (OE_.out.below hbw)
          clear XW XW2 b0 b1 b2 b3 CI hbw
          obtain ⟨d0, d1, d2, d3⟩ := R10.out.cells4
          have f0 := R10.out.frozen 0
          have f1 := R10.out.frozen 1
          have f2 := R10.out.frozen 2
          have f3 := R10.out.frozen 3
          rcases hG with ⟨hv, e1, ⟨e2, e3, e4⟩, ⟨e5, e6, e7⟩, ⟨e8, e9, e10⟩, e11⟩ | ⟨hv, e1, ⟨e2, e3, e4⟩, ⟨e5, e6, e7⟩, ⟨e8, e9, e10⟩, e11⟩
          · rw [e1, e2, e3, e4, e5, e6, e7, e8, e9, e10, e11] at hen
            subst hen
            have hG : Hid (giveT ra KF CF EF = ((ra, KF, CF, EF), true)) := by show _ = _; unfold giveT; rw [if_pos hv]
            clear e1 e2 e3 e4 e5 e6 e7 e8 e9 e10 e11 hv
            go_wp2
            refine bodyPost_ret (v := .tuple #[.agg #[.int .i64 ra, .slice AK i cK, .slice AC i cC, .slice AE i cE], .bool true]) (by simp [results, Try.results40, go_sem, d0, d1, d2, d3]) rfl ?_
            rw [hG.out]
            refine ⟨AK, cK, AC, cC, AE, cE, ?_, ?_, ?_, ?_, ?_, ?_, ?_, P1.out, P2.out, P3.out, ?_⟩
            · show _ = Ending.returned (.tuple #[.agg #[.int .i64 ra, .slice AK KF.length cK, .slice AC CF.length cC, .slice AE EF.length cE], .bool true])
              rw [nK.out, nC.out, nE.out]
            · exact ((((K10.out.setFar (by simp <;> omega) _).setFar (by simp <;> omega) _).setFar (by simp <;> omega) _).setFar (by simp <;> omega) _).mono (by omega)
            · show KF.length ≤ _; rw [nK.out]; omega
            · exact ((((C10.out.setFar (by simp <;> omega) _).setFar (by simp <;> omega) _).setFar (by simp <;> omega) _).setFar (by simp <;> omega) _).mono (by omega)
            · show CF.length ≤ _; rw [nC.out]; omega
            · exact ((((E10.out.setFar (by simp <;> omega) _).setFar (by simp <;> omega) _).setFar (by simp <;> omega) _).setFar (by simp <;> omega) _).mono (by omega)
            · show EF.length ≤ _; rw [nE.out]; omega
            · exact (((S10.out.setCell (by simp <;> omega) _).setCell (by simp <;> omega) _).setCell (by simp <;> omega) _).setCell (by simp <;> omega) _
          · rw [e1, e2, e3, e4, e5, e6, e7, e8, e9, e10, e11] at hen
            subst hen
            have hG : Hid (giveT ra KF CF EF = ((0, [], [], []), false)) := by show _ = _; unfold giveT; rw [hv]; rfl
            clear e1 e2 e3 e4 e5 e6 e7 e8 e9 e10 e11 hv
            go_wp2
            refine bodyPost_ret (v := .tuple #[.agg #[.int .i64 0, .slice none 0 0, .slice none 0 0, .slice none 0 0], .bool false]) (by simp [results, Try.results40, go_sem, d0, d1, d2, d3]) rfl ?_
            rw [hG.out]
            refine retTp_no _ _ ⟨rfl, ?_⟩
            exact (((S10.out.setCell (by simp <;> omega) _).setCell (by simp <;> omega) _).setCell (by simp <;> omega) _).setCell (by simp <;> omega) _
end Go.Proofs.Ytbodfepfapjikaa
