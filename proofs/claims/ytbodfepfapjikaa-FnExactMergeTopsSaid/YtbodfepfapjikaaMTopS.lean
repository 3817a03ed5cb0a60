/-
  MergeTops of the reference, by contract. Printed by gen_mtops.py.
-/
import Derived.Test.YtbodfepfapjikaaMTopA
import Derived.Test.YtbodfepfapjikaaCellsAt
namespace Go.Proofs.Ytbodfepfapjikaa
open Go.RowKit
set_option linter.unusedVariables false
set_option linter.unusedSimpArgs false

theorem below_of_draw' {W w' : World} {n : Nat} (h : w' = W.drewN n) : Below W.heap.size W w' := by rw [h]; exact below_drewN (Below.refl _ _) _
set_option maxRecDepth 100000 in
set_option maxHeartbeats 6400000 in
theorem sMergeTops_any (ra : Int) (A1 : Option Addr) (c1 : Nat) (ka : List Int) (A2 : Option Addr) (c2 : Nat) (ca : List Int) (A3 : Option Addr) (c3 : Nat) (ea : List Int) (rb : Int) (B1 : Option Addr) (d1 : Nat) (kb : List Int) (B2 : Option Addr) (d2 : Nat) (cb : List Int) (B3 : Option Addr) (d3 : Nat) (eb : List Int) (w : World) (hra : W64 ra) (hka : RdL (Value.int .i64) w A1 ka) (hnka : ka.length ≤ 1048576) (weka : ∀ y ∈ ka, W64 y) (hca : RdL (Value.int .i64) w A2 ca) (hnca : ca.length ≤ 1048576) (weca : ∀ y ∈ ca, W64 y) (hea : RdL (Value.int .i64) w A3 ea) (hnea : ea.length ≤ 1048576) (weea : ∀ y ∈ ea, W64 y) (hrb : W64 rb) (hkb : RdL (Value.int .i64) w B1 kb) (hnkb : kb.length ≤ 1048576) (wekb : ∀ y ∈ kb, W64 y) (hcb : RdL (Value.int .i64) w B2 cb) (hncb : cb.length ≤ 1048576) (wecb : ∀ y ∈ cb, W64 y) (heb : RdL (Value.int .i64) w B3 eb) (hneb : eb.length ≤ 1048576) (weeb : ∀ y ∈ eb, W64 y) (hcapa : ka.length ≤ c1 := by exact Nat.le_refl _) (hcapa2 : c1 ≤ 1048576 := by assumption) (hcapb : kb.length ≤ d1 := by exact Nat.le_refl _) (hcapb2 : d1 ≤ 1048576 := by assumption) :
    Calls Try.prog 39 #[.agg #[.int .i64 ra, .slice A1 ka.length c1, .slice A2 ca.length c2, .slice A3 ea.length c3], .agg #[.int .i64 rb, .slice B1 kb.length d1, .slice B2 cb.length d2, .slice B3 eb.length d3]] w (RetTp w (pMergeTops ra ka ca ea rb kb cb eb)) := by
  have HKA := hid hka
  have HCA := hid hca
  have HEA := hid hea
  have HKB := hid hkb
  have HCB := hid hcb
  have HEB := hid heb
  have BA0 := hid (((Blk.new w 33 [.int .i64 ra, .slice A1 ka.length c1, .slice A2 ca.length c2, .slice A3 ea.length c3]).alloc (.cells #[.int .i64 rb, .slice B1 kb.length d1, .slice B2 cb.length d2, .slice B3 eb.length d3] 33)).alloc (.cells #[.int .i64 0, .slice none 0 0, .slice none 0 0, .slice none 0 0] 33))
  have BB0 := hid ((Blk.new2 w (.cells #[.int .i64 ra, .slice A1 ka.length c1, .slice A2 ca.length c2, .slice A3 ea.length c3] 33) 33 [.int .i64 rb, .slice B1 kb.length d1, .slice B2 cb.length d2, .slice B3 eb.length d3]).alloc (.cells #[.int .i64 0, .slice none 0 0, .slice none 0 0, .slice none 0 0] 33))
  have R0 := hid (Blk.new3 w (.cells #[.int .i64 ra, .slice A1 ka.length c1, .slice A2 ca.length c2, .slice A3 ea.length c3] 33) (.cells #[.int .i64 rb, .slice B1 kb.length d1, .slice B2 cb.length d2, .slice B3 eb.length d3] 33) 33 [.int .i64 0, .slice none 0 0, .slice none 0 0, .slice none 0 0])
  have S0 : Hid (Below w.heap.size w (((w.alloc (.cells #[.int .i64 ra, .slice A1 ka.length c1, .slice A2 ca.length c2, .slice A3 ea.length c3] 33)).alloc (.cells #[.int .i64 rb, .slice B1 kb.length d1, .slice B2 cb.length d2, .slice B3 eb.length d3] 33)).alloc (.cells #[.int .i64 0, .slice none 0 0, .slice none 0 0, .slice none 0 0] 33))) := below_a3 _ _ _ _
  clear hka hca hea hkb hcb heb weka weca weea wekb wecb weeb
  cases hva : vTops ra ka ca ea with
  | false =>
    have hp : pMergeTops ra ka ca ea rb kb cb eb = ((0, [], [], []), false) := by simp [pMergeTops, hva]
    rw [hp]
    clear hp
    refine Calls.mono ?_ retTp_no
    go_enter Try.func39, Try.ntmps39
    obtain ⟨k0, k1, k2, k3⟩ := BA0.out.cells4
    go_wp2_with fail
    refine (l03Tops_any w.heap.size c1 c2 c3 A1 A2 A3 ra ka ca ea _ k0 k1 k2 k3 (HKA.out.below S0.out) (HCA.out.below S0.out) (HEA.out.below S0.out) hnka hnca hnea hcapa hcapa2).mono ?_
    rw [hva]
    rintro e w1 ⟨rfl, m, hm⟩
    have hb := below_of_draw hm
    clear hm
    have BA1 := hid (BA0.out.below hb)
    have BB1 := hid (BB0.out.below hb)
    have R1 := hid (R0.out.below hb)
    have S1 : Hid (Below w.heap.size w w1) := S0.out.trans (hb.mono S0.out.size)
    clear hb k0 k1 k2 k3 BA0 BB0 R0 S0
    have hsz3 : w.heap.size + 3 ≤ w1.heap.size := by have h := R1.out.lt; omega
    obtain ⟨d0, d1, d2, d3⟩ := R1.out.cells4
    have f0 := R1.out.frozen 0
    have f1 := R1.out.frozen 1
    have f2 := R1.out.frozen 2
    have f3 := R1.out.frozen 3
    go_wp2
    refine bodyPost_ret (v := .tuple #[.agg #[.int .i64 0, .slice none 0 0, .slice none 0 0, .slice none 0 0], .bool false]) (by simp [results, Try.results39, go_sem, d0, d1, d2, d3]) rfl ⟨rfl, ?_⟩
    exact (((S1.out.setCell (by simp <;> omega) _).setCell (by simp <;> omega) _).setCell (by simp <;> omega) _).setCell (by simp <;> omega) _
  | true =>
  cases hvb : vTops rb kb cb eb with
  | false =>
    have hp : pMergeTops ra ka ca ea rb kb cb eb = ((0, [], [], []), false) := by simp [pMergeTops, hvb]
    rw [hp]
    clear hp
    refine Calls.mono ?_ retTp_no
    go_enter Try.func39, Try.ntmps39
    obtain ⟨k0, k1, k2, k3⟩ := BA0.out.cells4
    go_wp2_with fail
    refine (l03Tops_any w.heap.size c1 c2 c3 A1 A2 A3 ra ka ca ea _ k0 k1 k2 k3 (HKA.out.below S0.out) (HCA.out.below S0.out) (HEA.out.below S0.out) hnka hnca hnea hcapa hcapa2).mono ?_
    rw [hva]
    rintro e w1 ⟨rfl, m, hm⟩
    have hb := below_of_draw hm
    clear hm
    have BA1 := hid (BA0.out.below hb)
    have BB1 := hid (BB0.out.below hb)
    have R1 := hid (R0.out.below hb)
    have S1 : Hid (Below w.heap.size w w1) := S0.out.trans (hb.mono S0.out.size)
    clear hb k0 k1 k2 k3 BA0 BB0 R0 S0
    obtain ⟨k0, k1, k2, k3⟩ := BB1.out.cells4
    go_wp2_with fail
    refine (l03Tops_any (w.heap.size + 1) d1 d2 d3 B1 B2 B3 rb kb cb eb _ k0 k1 k2 k3 (HKB.out.below S1.out) (HCB.out.below S1.out) (HEB.out.below S1.out) hnkb hncb hneb hcapb hcapb2).mono ?_
    rw [hvb]
    rintro e w2 ⟨rfl, m, hm⟩
    have hb := below_of_draw hm
    clear hm
    have BA2 := hid (BA1.out.below hb)
    have BB2 := hid (BB1.out.below hb)
    have R2 := hid (R1.out.below hb)
    have S2 : Hid (Below w.heap.size w w2) := S1.out.trans (hb.mono S1.out.size)
    clear hb k0 k1 k2 k3 BA1 BB1 R1 S1
    have R1 := R2
    have S1 := S2
    have hsz3 : w.heap.size + 3 ≤ w2.heap.size := by have h := R1.out.lt; omega
    obtain ⟨d0, d1, d2, d3⟩ := R1.out.cells4
    have f0 := R1.out.frozen 0
    have f1 := R1.out.frozen 1
    have f2 := R1.out.frozen 2
    have f3 := R1.out.frozen 3
    go_wp2
    refine bodyPost_ret (v := .tuple #[.agg #[.int .i64 0, .slice none 0 0, .slice none 0 0, .slice none 0 0], .bool false]) (by simp [results, Try.results39, go_sem, d0, d1, d2, d3]) rfl ⟨rfl, ?_⟩
    exact (((S1.out.setCell (by simp <;> omega) _).setCell (by simp <;> omega) _).setCell (by simp <;> omega) _).setCell (by simp <;> omega) _
  | true =>
  by_cases hr : ra = rb
  case neg =>
    have hrb : (ra == rb) = false := by simp [hr]
    have hrb2 : (ra != rb) = true := by simp [hr]
    have hp : pMergeTops ra ka ca ea rb kb cb eb = ((0, [], [], []), false) := by simp [pMergeTops, hrb]
    rw [hp]
    clear hp
    refine Calls.mono ?_ retTp_no
    clear hr
    go_enter Try.func39, Try.ntmps39
    obtain ⟨k0, k1, k2, k3⟩ := BA0.out.cells4
    go_wp2_with fail
    refine (l03Tops_any w.heap.size c1 c2 c3 A1 A2 A3 ra ka ca ea _ k0 k1 k2 k3 (HKA.out.below S0.out) (HCA.out.below S0.out) (HEA.out.below S0.out) hnka hnca hnea hcapa hcapa2).mono ?_
    rw [hva]
    rintro e w1 ⟨rfl, m, hm⟩
    have hb := below_of_draw hm
    clear hm
    have BA1 := hid (BA0.out.below hb)
    have BB1 := hid (BB0.out.below hb)
    have R1 := hid (R0.out.below hb)
    have S1 : Hid (Below w.heap.size w w1) := S0.out.trans (hb.mono S0.out.size)
    clear hb k0 k1 k2 k3 BA0 BB0 R0 S0
    obtain ⟨k0, k1, k2, k3⟩ := BB1.out.cells4
    go_wp2_with fail
    refine (l03Tops_any (w.heap.size + 1) d1 d2 d3 B1 B2 B3 rb kb cb eb _ k0 k1 k2 k3 (HKB.out.below S1.out) (HCB.out.below S1.out) (HEB.out.below S1.out) hnkb hncb hneb hcapb hcapb2).mono ?_
    rw [hvb]
    rintro e w2 ⟨rfl, m, hm⟩
    have hb := below_of_draw hm
    clear hm
    have BA2 := hid (BA1.out.below hb)
    have BB2 := hid (BB1.out.below hb)
    have R2 := hid (R1.out.below hb)
    have S2 : Hid (Below w.heap.size w w2) := S1.out.trans (hb.mono S1.out.size)
    clear hb k0 k1 k2 k3 BA1 BB1 R1 S1
    have R1 := R2
    have S1 := S2
    have hsz3 : w.heap.size + 3 ≤ w2.heap.size := by have h := R1.out.lt; omega
    obtain ⟨d0, d1, d2, d3⟩ := R1.out.cells4
    have f0 := R1.out.frozen 0
    have f1 := R1.out.frozen 1
    have f2 := R1.out.frozen 2
    have f3 := R1.out.frozen 3
    obtain ⟨k0, k1, k2, k3⟩ := BA2.out.cells4
    obtain ⟨l0, l1, l2, l3⟩ := BB2.out.cells4
    go_wp2
    refine bodyPost_ret (v := .tuple #[.agg #[.int .i64 0, .slice none 0 0, .slice none 0 0, .slice none 0 0], .bool false]) (by simp [results, Try.results39, go_sem, d0, d1, d2, d3]) rfl ⟨rfl, ?_⟩
    exact (((S1.out.setCell (by simp <;> omega) _).setCell (by simp <;> omega) _).setCell (by simp <;> omega) _).setCell (by simp <;> omega) _
  subst hr
  have ev := vTops_iff hva
  obtain ⟨⟨hr1, hr2⟩, hka1, -, -, -, -, hkr, hnd⟩ := ev
  obtain ⟨-, hkb1, -, -, -, -, hkrb, -⟩ := vTops_iff hvb
  have hp : pMergeTops ra ka ca ea ra kb cb eb = giveT ra ((srtU (upT ra ka ca ea ra kb cb eb) (unT ka kb kb.length)).take ra.toNat) (((srtU (upT ra ka ca ea ra kb cb eb) (unT ka kb kb.length)).take ra.toNat).map (upT ra ka ca ea ra kb cb eb)) (((srtU (upT ra ka ca ea ra kb cb eb) (unT ka kb kb.length)).take ra.toNat).map (erT ra ka ca ea ra kb cb eb)) := by simp [pMergeTops, hva, hvb]
  rw [hp]
  clear hp
  have HVA := hid hva
  have HVB := hid hvb
  obtain ⟨ba, hba⟩ : ∃ f, f = bndT ra ka ca ea := ⟨_, rfl⟩
  obtain ⟨bb, hbb_⟩ : ∃ f, f = bndT ra kb cb eb := ⟨_, rfl⟩
  obtain ⟨up, hup⟩ : ∃ f, f = upT ra ka ca ea ra kb cb eb := ⟨_, rfl⟩
  obtain ⟨er, her⟩ : ∃ f, f = erT ra ka ca ea ra kb cb eb := ⟨_, rfl⟩
  obtain ⟨K, hK⟩ : ∃ K, K = unT ka kb kb.length := ⟨_, rfl⟩
  have HBA : Hid (∀ key, 0 ≤ (ba key).1 ∧ (ba key).1 ≤ 1000000000000 ∧ 0 ≤ (ba key).2 ∧ (ba key).2 ≤ 1000000000000) := fun key => by rw [hba]; exact bndT_bd hva key
  have HBB : Hid (∀ key, 0 ≤ (bb key).1 ∧ (bb key).1 ≤ 1000000000000 ∧ 0 ≤ (bb key).2 ∧ (bb key).2 ≤ 1000000000000) := fun key => by rw [hbb_]; exact bndT_bd hvb key
  have HUP : Hid (∀ key, up key = (ba key).2 + (bb key).2) := fun key => by rw [hup, hba, hbb_]; rfl
  have HER : Hid (∀ key, er key = (ba key).2 + (bb key).2 - (ba key).1 - (bb key).1) := fun key => by rw [her, hba, hbb_]; rfl
  have HKN : Hid (K.Nodup) := by rw [hK]; exact unT_nodup hnd _
  have HKL : Hid (K.length ≤ 64) := by show _ ≤ _; rw [hK]; have := unT_length ka kb kb.length; omega
  rw [← hup, ← her, ← hK]
  obtain ⟨KF, hKF⟩ : ∃ f, f = (srtU up K).take ra.toNat := ⟨_, rfl⟩
  rw [← hKF]
  obtain ⟨CF, hCF⟩ : ∃ f, f = KF.map up := ⟨_, rfl⟩
  obtain ⟨EF, hEF⟩ : ∃ f, f = KF.map er := ⟨_, rfl⟩
  rw [← hCF, ← hEF]
  have KFE := hid hKF
  have CFE := hid hCF
  have EFE := hid hEF
  clear hKF hCF hEF
  have HKE := hid hK
  have HBAE := hid hba
  have HBBE := hid hbb_
  clear hba hbb_ hup her hK hva hvb hkr hkrb hnd
  go_enter Try.func39, Try.ntmps39
  obtain ⟨k0, k1, k2, k3⟩ := BA0.out.cells4
  go_wp2_with fail
  refine (l03Tops_any w.heap.size c1 c2 c3 A1 A2 A3 ra ka ca ea _ k0 k1 k2 k3 (HKA.out.below S0.out) (HCA.out.below S0.out) (HEA.out.below S0.out) hnka hnca hnea hcapa hcapa2).mono ?_
  rw [HVA.out]
  rintro e w1 ⟨rfl, m, hm⟩
  have hb := below_of_draw hm
  clear hm
  have BA1 := hid (BA0.out.below hb)
  have BB1 := hid (BB0.out.below hb)
  have R1 := hid (R0.out.below hb)
  have S1 : Hid (Below w.heap.size w w1) := S0.out.trans (hb.mono S0.out.size)
  clear hb k0 k1 k2 k3 BA0 BB0 R0 S0
  obtain ⟨k0, k1, k2, k3⟩ := BB1.out.cells4
  go_wp2_with fail
  refine (l03Tops_any (w.heap.size + 1) d1 d2 d3 B1 B2 B3 ra kb cb eb _ k0 k1 k2 k3 (HKB.out.below S1.out) (HCB.out.below S1.out) (HEB.out.below S1.out) hnkb hncb hneb hcapb hcapb2).mono ?_
  rw [HVB.out]
  rintro e w2 ⟨rfl, m, hm⟩
  have hb := below_of_draw hm
  clear hm
  have BA2 := hid (BA1.out.below hb)
  have BB2 := hid (BB1.out.below hb)
  have R2 := hid (R1.out.below hb)
  have S2 : Hid (Below w.heap.size w w2) := S1.out.trans (hb.mono S1.out.size)
  clear hb k0 k1 k2 k3 BA1 BB1 R1 S1
  have hsz3 : w.heap.size + 3 ≤ w2.heap.size := by have h := R2.out.lt; omega
  have CBA : Hid (∀ w' key, Below w2.heap.size w2 w' → Calls Try.prog 71 #[.pointer (some ⟨w.heap.size, 0, none⟩), .int .i64 key] w' fun en w'' => en = .returned (.tuple #[.int .i64 (ba key).1, .int .i64 (ba key).2]) ∧ ∃ n, w'' = w'.drewN n) := fun w' key hb => by
    obtain ⟨k0, k1, k2, k3⟩ := (BA2.out.below hb).cells4
    have hS : Below w.heap.size w w' := S2.out.trans (hb.mono S2.out.size)
    rw [HBAE.out]
    exact l03Bounds_any w.heap.size ra A1 c1 ka A2 c2 ca A3 c3 ea key w' k0 k1 k2 k3 (HKA.out.below hS) (HCA.out.below hS) (HEA.out.below hS) HVA.out
  have CBB : Hid (∀ w' key, Below w2.heap.size w2 w' → Calls Try.prog 71 #[.pointer (some ⟨w.heap.size + 1, 0, none⟩), .int .i64 key] w' fun en w'' => en = .returned (.tuple #[.int .i64 (bb key).1, .int .i64 (bb key).2]) ∧ ∃ n, w'' = w'.drewN n) := fun w' key hb => by
    obtain ⟨k0, k1, k2, k3⟩ := (BB2.out.below hb).cells4
    have hS : Below w.heap.size w w' := S2.out.trans (hb.mono S2.out.size)
    rw [HBBE.out]
    exact l03Bounds_any (w.heap.size + 1) ra B1 d1 kb B2 d2 cb B3 d3 eb key w' k0 k1 k2 k3 (HKB.out.below hS) (HCB.out.below hS) (HEB.out.below hS) HVB.out
  have KA2 := hid (HKA.out.below S2.out)
  have KB2 := hid (HKB.out.below S2.out)
  obtain ⟨k0, k1, k2, k3⟩ := BA2.out.cells4
  obtain ⟨l0, l1, l2, l3⟩ := BB2.out.cells4
  have hkal : ka.length ≤ 1048577 := by omega
  have hlw0 : w.heap.size < w2.heap.size := by omega
  have hlw1 : w.heap.size + 1 < w2.heap.size := by omega
  clear HBAE HBBE HVA HVB
  go_wp2_with (at_builtin; refine app_src rfl _ _ rfl A1 c1 ka KA2.out (Below.refl w2.heap.size w2) rfl rfl hkal (Nat.le_refl _) ?_)
  intro v3 w3 O3 W3 hg3
  have O3' : Hid (OwnV w3 w2.heap.size v3 (unT ka kb 0)) := O3
  have l1' := (BB2.out.below W3.out).cells4.2.1
  clear k0 k1 k2 k3 l0 l1 l2 l3 O3
  go_wp2
  clear l1'
  go_loopw [6, 38] (fun v t wr => ∃ i : Nat, i ≤ kb.length ∧ t = .int .i64 i ∧ Hid (OwnV wr w2.heap.size v (unT ka kb i)) ∧ Hid (Below w2.heap.size w2 wr)) (fun v t _ => kb.length - (intOf t).toNat)
  case atStart => exact ⟨0, Nat.zero_le _, rfl, O3', W3⟩
  case round =>
    clear O3' W3 hg3
    obtain ⟨i, hi, rfl, hO, hW⟩ := hrel
    have hul := unT_length ka kb i
    obtain ⟨Av, cv, rfl, hoS⟩ := hO.out.ownS
    by_cases hlt : i < kb.length
    · have hil : (i : Int) < (kb.length : Int) := by omega
      have hi0 : (0 : Int) ≤ (i : Int) := by omega
      obtain ⟨b, o, y, rfl, hcy, hy⟩ := (KB2.out.below hW.out).at_ hlt
      obtain ⟨l0, l1, l2, l3⟩ := (BB2.out.below hW.out).cells4
      have CH : Hid (Calls Try.prog 89 #[.slice Av (unT ka kb i).length cv, .int .i64 y] wr fun e w' => e = .returned (.bool (hasI (unT ka kb i) y)) ∧ wr = w') := l00Has_any Av cv _ y wr hoS.rd (by omega)
      have hsz := hW.out.size
      have hul2 : (unT ka kb i).length ≤ 1048577 := by omega
      cases hh : hasI (unT ka kb i) y with
      | true =>
        have O4 : Hid (OwnV wr w2.heap.size (.slice Av (unT ka kb i).length cv) (unT ka kb (i + 1))) := by show OwnV _ _ _ _; rw [unT_yes hy hh]; exact hO.out
        rw [hh] at CH
        clear hh hoS hO hy
        go_wp2_with (go_at_call 89; ((with_reducible refine CH.out.mono ?_); rintro e w' ⟨rfl, rfl⟩))
        exact ⟨⟨i + 1, by omega, by go_num, O4, hW⟩, by simp [intOf]; omega⟩
      | false =>
        rw [hh] at CH
        have HH := hid hh
        clear hh hoS
        go_wp2_with (first | (go_at_call 89; ((with_reducible refine CH.out.mono ?_); rintro e w' ⟨rfl, rfl⟩)) | (at_builtin; refine app_int rfl _ _ rfl y hO.out hW.out rfl rfl hul2 hsz ?_))
        intro v' w' O4 W4 _ _
        have O5 : Hid (OwnV w' w2.heap.size v' (unT ka kb (i + 1))) := by show OwnV _ _ _ _; rw [unT_no hy HH.out]; exact O4.out
        clear O4 hO hW
        go_wp2
        exact ⟨⟨i + 1, by omega, by go_num, O5, W4⟩, by simp [intOf]; omega⟩
    · have hil : ¬ (i : Int) < (kb.length : Int) := by omega
      obtain rfl : i = kb.length := by omega
      rw [← HKE.out] at hO hoS ⊢
      obtain ⟨wk, hwk⟩ : ∃ wk, wk = wr := ⟨_, rfl⟩
      subst hwk
      have RK := hid hoS.rd
      have WK := hW
      have hqw : w2.heap.size ≤ wk.heap.size := hW.out.size
      obtain ⟨k0, k1, k2, k3⟩ := (BA2.out.below WK.out).cells4
      have hlwk : w.heap.size < wk.heap.size := by omega
      have TS0 : Hid (TpS (wk.alloc (.cells #[.int .i64 ra, .slice none 0 0, .slice none 0 0, .slice none 0 0] 33)) wk.heap.size ra (.slice none 0 0) (.slice none 0 0) (.slice none 0 0) [] [] []) := TpS.start wk ra
      have CKa : Hid (∀ w' key, Below wk.heap.size wk w' → Calls Try.prog 71 #[.pointer (some ⟨w.heap.size, 0, none⟩), .int .i64 key] w' fun en w'' => en = .returned (.tuple #[.int .i64 (ba key).1, .int .i64 (ba key).2]) ∧ ∃ n, w'' = w'.drewN n) := fun w' key hb => CBA.out w' key (WK.out.trans (hb.mono hqw))
      have CKb : Hid (∀ w' key, Below wk.heap.size wk w' → Calls Try.prog 71 #[.pointer (some ⟨w.heap.size + 1, 0, none⟩), .int .i64 key] w' fun en w'' => en = .returned (.tuple #[.int .i64 (bb key).1, .int .i64 (bb key).2]) ∧ ∃ n, w'' = w'.drewN n) := fun w' key hb => CBB.out w' key (WK.out.trans (hb.mono hqw))
      clear hO hoS hul hlt hW CBA CBB hi
      go_wp2
      clear k0 k1 k2 k3
      go_loopw [63] (fun t wq => ∃ (i : Nat) (vK vC vE : Value) (L : List Int), i ≤ K.length ∧ t = .int .i64 i ∧ Hid (L = isrt (ltU up) (K.take i)) ∧ Hid (TpS wq wk.heap.size ra vK vC vE L (L.map up) (L.map er)) ∧ Hid (Below wk.heap.size wk wq) ∧ wk.heap.size < wq.heap.size) (fun t _ => K.length - (intOf t).toNat)
      case atStart => exact ⟨0, _, _, _, [], Nat.zero_le _, rfl, rfl, TS0, below_a1 _ _, by simp⟩
      case round =>
        obtain ⟨i, vK, vC, vE, L, hi, rfl, hL, hT, hW, hqr⟩ := hrel
        obtain ⟨AK, cK, hvK, -⟩ := hT.out.k.ownS
        obtain ⟨AC, cC, hvC, -⟩ := hT.out.c.ownS
        obtain ⟨AE, cE, hvE, -⟩ := hT.out.e.ownS
        rw [List.length_map] at hvC hvE
        subst hvK hvC hvE
        have hKl64 : K.length ≤ 64 := HKL.out
        have hLl0 : L.length ≤ i := by have h := hL.out; rw [h, isrt_length, List.length_take]; omega
        by_cases hlt : i < K.length
        · have hil : (i : Int) < (K.length : Int) := by omega
          have hi0 : (0 : Int) ≤ (i : Int) := by omega
          obtain ⟨b, o, y, rfl, hcyw, hy⟩ := RK.out.at_ hlt
          have hcy : wr.cell? ⟨b, o + i, none⟩ = some (.int .i64 y) := (hW.out.cell (World.block_lt_of_cell? _ _ hcyw)).trans hcyw
          have HCY := hid hcyw
          clear hcyw
          obtain ⟨la, hla⟩ : ∃ z, z = (ba y).1 := ⟨_, rfl⟩
          obtain ⟨ha, hha⟩ : ∃ z, z = (ba y).2 := ⟨_, rfl⟩
          obtain ⟨lb, hlb⟩ : ∃ z, z = (bb y).1 := ⟨_, rfl⟩
          obtain ⟨hb, hhb⟩ : ∃ z, z = (bb y).2 := ⟨_, rfl⟩
          have h1 := HBA.out y
          have h2 := HBB.out y
          have h3 := HUP.out y
          have h4 := HER.out y
          have C1 := CKa.out wr y hW.out
          have C2 := fun w' h => CKb.out w' y h
          rw [← hla, ← hha] at C1 h1
          rw [← hlb, ← hhb] at C2 h2
          rw [← hha, ← hhb] at h3
          rw [← hla, ← hha, ← hlb, ← hhb] at h4
          have UPY := hid h3
          have ERY := hid h4
          have C1H := hid C1
          have C2H := hid C2
          clear hla hha hlb hhb h3 h4 C1 C2
          go_wp2_with fail
          refine C1H.out.mono ?_
          rintro e w6 ⟨rfl, n6, hn6⟩
          have W6 : Hid (Below wk.heap.size wk w6) := by rw [hn6]; exact below_drewN hW.out _
          have T6 : Hid (TpS w6 wk.heap.size ra (.slice AK L.length cK) (.slice AC L.length cC) (.slice AE L.length cE) L (L.map up) (L.map er)) := by rw [hn6]; exact hT.out.drewN _
          have hq6 : wk.heap.size < w6.heap.size := by rw [hn6]; exact hqr
          have hcy6 : w6.cell? ⟨b, o + i, none⟩ = some (.int .i64 y) := by rw [hn6]; exact hcy
          clear hn6 hT hqr hcy hW C1H
          go_wp2_with fail
          refine (C2H.out _ W6.out).mono ?_
          rintro e w7 ⟨rfl, n7, hn7⟩
          have W7 : Hid (Below wk.heap.size wk w7) := by rw [hn7]; exact below_drewN W6.out _
          have T7 : Hid (TpS w7 wk.heap.size ra (.slice AK L.length cK) (.slice AC L.length cC) (.slice AE L.length cE) L (L.map up) (L.map er)) := by rw [hn7]; exact T6.out.drewN _
          have hq7 : wk.heap.size + 1 ≤ w7.heap.size := by rw [hn7]; exact hq6
          clear hn7 W6 T6 hq6 hcy6 C2H
          obtain ⟨b0, b1, b2, b3⟩ := T7.out.cells
          go_wp2
          clear b0 b1 b2 b3
          go_loop [14] (fun t => ∃ j : Nat, j ≤ L.length ∧ t = .int .i64 j ∧ Hid (posR (ltU up) y L j = posR (ltU up) y L L.length)) (fun t => (intOf t).toNat)
          case atStart => exact ⟨L.length, Nat.le_refl _, rfl, rfl⟩
          case round =>
            obtain ⟨j, hjL, rfl, hpos⟩ := hrel
            rcases Nat.eq_zero_or_pos j with h0 | h0
            · have hn0 : ¬ 0 < j := by omega
              have HJP : Hid (posR (ltU up) y L L.length = j) := by show _ = _; rw [← hpos.out, h0]; rfl
              clear h0 hpos
              obtain ⟨n1, hn1⟩ : ∃ n1, n1 = L.length + 1 := ⟨_, rfl⟩
              have NL : Hid (L.length + 1 = n1) := hn1.symm
              have hn1' : n1 ≤ L.length + 1 ∧ L.length + 1 ≤ n1 := by omega
              clear hn1
              have hLl : L.length ≤ 1048577 := by have := HKL.out; omega
              have hLu : (L.map up).length ≤ 1048577 := by rw [List.length_map]; exact hLl
              have hLe : (L.map er).length ≤ 1048577 := by rw [List.length_map]; exact hLl
              obtain ⟨b0, b1, b2, b3⟩ := T7.out.cells
              go_wp2_with (at_builtin; refine app_int rfl _ _ rfl 0 T7.out.k (Below.refl (wk.heap.size + 1) w7) rfl rfl hLl hq7 ?_)
              intro v1 w8 O8 W8 hg8 K8
              obtain ⟨gK, cK2, -, hvK, hgK, -, -, -, -, -⟩ := O8.out.put (j := 0) (by simp)
              rw [List.length_append, List.length_singleton, NL.out] at hvK
              subst hvK
              have T8 := hid (T7.out.fieldK O8.out K8.out W8.out)
              have X8 : Hid (Below wk.heap.size wk w8) := W7.out.trans (W8.out.mono (Nat.le_succ _))
              have hq8 : wk.heap.size + 1 ≤ (w8.setCell ⟨wk.heap.size, 1, none⟩ (.slice (some ⟨gK, 0, none⟩) n1 cK2)).heap.size := by have := hg8.out; simp; omega
              have B8 : Blk w8 wk.heap.size 33 _ := (W8.out.block _ (Nat.lt_succ_self _)).trans T7.out.box
              obtain ⟨y0, y1, y2, y3⟩ := B8.cells4
              have yf := B8.frozen 1
              clear O8 K8 b0 b1 b2 b3
              go_wp2_with (at_builtin; refine app_int rfl _ _ rfl 0 T8.out.c (Below.refl (wk.heap.size + 1) (w8.setCell ⟨wk.heap.size, 1, none⟩ (.slice (some ⟨gK, 0, none⟩) n1 cK2))) rfl (by show Value.slice (some ⟨w8.heap.size, 0, none⟩) 1 1 = _; simp) hLu hq8 ?_)
              intro v2 w9 O9 W9 hg9 K9
              obtain ⟨gC, cC2, -, hvC, hgC, -, -, -, -, -⟩ := O9.out.put (j := 0) (by simp)
              rw [List.length_append, List.length_singleton, List.length_map, NL.out] at hvC
              subst hvC
              have T9 := hid (T8.out.fieldC O9.out K9.out W9.out)
              have X8' : Hid (Below wk.heap.size wk (w8.setCell ⟨wk.heap.size, 1, none⟩ (.slice (some ⟨gK, 0, none⟩) n1 cK2))) := X8.out.setCell (p := ⟨wk.heap.size, 1, none⟩) (Nat.le_refl _) _
              have X9 : Hid (Below wk.heap.size wk w9) := X8'.out.trans (W9.out.mono (Nat.le_succ _))
              have hq9 : wk.heap.size + 1 ≤ (w9.setCell ⟨wk.heap.size, 2, none⟩ (.slice (some ⟨gC, 0, none⟩) n1 cC2)).heap.size := by have := hg9.out; simp at this ⊢; have := hg8.out; omega
              have B9 : Blk w9 wk.heap.size 33 _ := (W9.out.block _ (Nat.lt_succ_self _)).trans T8.out.box
              clear y0 y1 y2 y3 yf B8
              obtain ⟨y0, y1, y2, y3⟩ := B9.cells4
              have yf := B9.frozen 2
              clear O9 K9
              go_wp2_with (at_builtin; refine app_int rfl _ _ rfl 0 T9.out.e (Below.refl (wk.heap.size + 1) (w9.setCell ⟨wk.heap.size, 2, none⟩ (.slice (some ⟨gC, 0, none⟩) n1 cC2))) rfl (by show Value.slice (some ⟨w9.heap.size, 0, none⟩) 1 1 = _; simp) hLe hq9 ?_)
              intro v3 w10 O10 W10 hg10 K10
              obtain ⟨gE, cE2, -, hvE, hgE, -, -, -, -, -⟩ := O10.out.put (j := 0) (by simp)
              rw [List.length_append, List.length_singleton, List.length_map, NL.out] at hvE
              subst hvE
              have T10 := hid (T9.out.fieldE O10.out K10.out W10.out)
              have X9' : Hid (Below wk.heap.size wk (w9.setCell ⟨wk.heap.size, 2, none⟩ (.slice (some ⟨gC, 0, none⟩) n1 cC2))) := X9.out.setCell (p := ⟨wk.heap.size, 2, none⟩) (Nat.le_refl _) _
              have X10 : Hid (Below wk.heap.size wk (w10.setCell ⟨wk.heap.size, 3, none⟩ (.slice (some ⟨gE, 0, none⟩) n1 cE2))) := (X9'.out.trans (W10.out.mono (Nat.le_succ _))).setCell (p := ⟨wk.heap.size, 3, none⟩) (Nat.le_refl _) _
              have hq10 : wk.heap.size < (w10.setCell ⟨wk.heap.size, 3, none⟩ (.slice (some ⟨gE, 0, none⟩) n1 cE2)).heap.size := by have := W10.out.size; simp at this hq9 ⊢; omega
              have B10 : Blk w10 wk.heap.size 33 _ := (W10.out.block _ (Nat.lt_succ_self _)).trans T9.out.box
              clear y0 y1 y2 y3 yf B9
              obtain ⟨y0, y1, y2, y3⟩ := B10.cells4
              have yf := B10.frozen 3
              clear O10 K10 T8 T9 X8 X8' X9 X9' W8 W9 W10 hg8 hg9 hg10
              have T11 : Hid (TpS (w10.setCell ⟨wk.heap.size, 3, none⟩ (.slice (some ⟨gE, 0, none⟩) n1 cE2)) wk.heap.size ra (.slice (some ⟨gK, 0, none⟩) n1 cK2) (.slice (some ⟨gC, 0, none⟩) n1 cC2) (.slice (some ⟨gE, 0, none⟩) n1 cE2) (shG 0 L L.length) (shG 0 (L.map up) L.length) (shG 0 (L.map er) L.length)) := by
                show TpS _ _ _ _ _ _ _ _ _
                have h1 := shG_top (z0 := (0 : Int)) L
                have h2 := shG_top (z0 := (0 : Int)) (L.map up)
                have h3 := shG_top (z0 := (0 : Int)) (L.map er)
                rw [List.length_map] at h2 h3
                rw [h1, h2, h3]; exact T10.out
              have e0 : IntKind.i64.wrap ((n1 : Int) - 1) = (L.length : Int) := by rw [IntKind.wrap_i64]; omega
              clear T10
              go_wp2
              clear y0 y1 y2 y3 yf e0 B10
              go_loopw [15] (fun t wq => ∃ m : Nat, j ≤ m ∧ m ≤ L.length ∧ t = .int .i64 m ∧ Hid (TpS wq wk.heap.size ra (.slice (some ⟨gK, 0, none⟩) n1 cK2) (.slice (some ⟨gC, 0, none⟩) n1 cC2) (.slice (some ⟨gE, 0, none⟩) n1 cE2) (shG 0 L m) (shG 0 (L.map up) m) (shG 0 (L.map er) m)) ∧ Hid (Below wk.heap.size wk wq) ∧ wk.heap.size < wq.heap.size) (fun t _ => (intOf t).toNat)
              case atStart => exact ⟨L.length, hjL, Nat.le_refl _, rfl, T11, X10, hq10⟩
              case round =>
                clear T11 X10 hq10
                obtain ⟨m, hjm, hmL, rfl, hTm, hWm, hqm⟩ := hrel
                by_cases hgt : j < m
                · have hgti : (j : Int) < (m : Int) := by omega
                  obtain ⟨m0, rfl⟩ : ∃ m0, m = m0 + 1 := ⟨m - 1, by omega⟩
                  have w1 : IntKind.i64.wrap (((m0 + 1 : Nat) : Int) - 1) = (m0 : Int) := by rw [IntKind.wrap_i64]; omega
                  have w2_ : IntKind.i64.wrap ((m0 : Int) + 1 - 1) = (m0 : Int) := by rw [IntKind.wrap_i64]; omega
                  have i1 : (m0 : Int) < (n1 : Int) := by omega
                  have i2 : ((m0 + 1 : Nat) : Int) < (n1 : Int) := by omega
                  have i2' : (m0 : Int) + 1 < (n1 : Int) := by omega
                  have i3 : (0 : Int) ≤ (m0 : Int) := by omega
                  go_wp2
                  obtain ⟨b0, b1, b2, b3⟩ := hTm.out.cells
                  obtain ⟨gx, cx, z, hv1, hgq, hgl, hc1, hf1, hz1, -⟩ := hTm.out.putK (j := m0) (by rw [shG_length (by omega)]; omega)
                  obtain ⟨gx2, cx2, z2, hv2, hgq2, hgl2, hc2, hf2, hz2, hput⟩ := hTm.out.putK (j := m0 + 1) (by rw [shG_length (by omega)]; omega)
                  injection hv1 with hv1 u1 u2; clear u1 u2; injection hv1 with hv1; injection hv1 with hv1
                  injection hv2 with hv2 u1 u2; clear u1 u2; injection hv2 with hv2; injection hv2 with hv2
                  subst hv1
                  subst hv2
                  have hzz : L[m0]? = some z := by
                    have h1 := hz1.out
                    rw [shG_low (by omega) (by omega), List.getElem?_append_left (by omega)] at h1
                    exact h1
                  have TK_ := hput z
                  rw [shG_step hzz] at TK_
                  have TK := hid TK_.out.drew1
                  have WK_ : Hid (Below wk.heap.size wk (wr.setCell ⟨gK, m0 + 1, none⟩ (.int .i64 z)).drew) := below_drew1 (hWm.out.setCell (p := ⟨gK, m0 + 1, none⟩) (by show wk.heap.size ≤ gK; omega) _)
                  have hqx : wk.heap.size < (wr.setCell ⟨gK, m0 + 1, none⟩ (.int .i64 z)).drew.heap.size := by show _ < (wr.setCell ⟨gK, m0 + 1, none⟩ (.int .i64 z)).heap.size; simp; omega
                  clear TK_ hput hz1 hz2 hzz
                  go_big_region
                  generalize (wr.setCell ⟨gK, m0 + 1, none⟩ (.int .i64 z)).drew = wK at TK WK_ hqx ⊢
                  clear hc1 hf1 hc2 hf2 b0 b1 b2 b3
                  go_wp2
                  obtain ⟨b0, b1, b2, b3⟩ := TK.out.cells
                  obtain ⟨gx, cx, z, hv1, hgq, hgl, hc1, hf1, hz1, -⟩ := TK.out.putC (j := m0) (by rw [shG_length (by simp; omega)]; simp; omega)
                  obtain ⟨gx2, cx2, z2, hv2, hgq2, hgl2, hc2, hf2, hz2, hput⟩ := TK.out.putC (j := m0 + 1) (by rw [shG_length (by simp; omega)]; simp; omega)
                  injection hv1 with hv1 u1 u2; clear u1 u2; injection hv1 with hv1; injection hv1 with hv1
                  injection hv2 with hv2 u1 u2; clear u1 u2; injection hv2 with hv2; injection hv2 with hv2
                  subst hv1
                  subst hv2
                  have hzz : (L.map up)[m0]? = some z := by
                    have h1 := hz1.out
                    rw [shG_low (by omega) (by simp; omega), List.getElem?_append_left (by simp; omega)] at h1
                    exact h1
                  have TC_ := hput z
                  rw [shG_step hzz] at TC_
                  have TC := hid TC_.out.drew1
                  have WC_ : Hid (Below wk.heap.size wk (wK.setCell ⟨gC, m0 + 1, none⟩ (.int .i64 z)).drew) := below_drew1 (WK_.out.setCell (p := ⟨gC, m0 + 1, none⟩) (by show wk.heap.size ≤ gC; omega) _)
                  have hqx : wk.heap.size < (wK.setCell ⟨gC, m0 + 1, none⟩ (.int .i64 z)).drew.heap.size := by show _ < (wK.setCell ⟨gC, m0 + 1, none⟩ (.int .i64 z)).heap.size; simp; omega
                  clear TC_ hput hz1 hz2 hzz
                  go_big_region
                  generalize (wK.setCell ⟨gC, m0 + 1, none⟩ (.int .i64 z)).drew = wC at TC WC_ hqx ⊢
                  clear hc1 hf1 hc2 hf2 b0 b1 b2 b3
                  go_wp2
                  obtain ⟨b0, b1, b2, b3⟩ := TC.out.cells
                  obtain ⟨gx, cx, z, hv1, hgq, hgl, hc1, hf1, hz1, -⟩ := TC.out.putE (j := m0) (by rw [shG_length (by simp; omega)]; simp; omega)
                  obtain ⟨gx2, cx2, z2, hv2, hgq2, hgl2, hc2, hf2, hz2, hput⟩ := TC.out.putE (j := m0 + 1) (by rw [shG_length (by simp; omega)]; simp; omega)
                  injection hv1 with hv1 u1 u2; clear u1 u2; injection hv1 with hv1; injection hv1 with hv1
                  injection hv2 with hv2 u1 u2; clear u1 u2; injection hv2 with hv2; injection hv2 with hv2
                  subst hv1
                  subst hv2
                  have hzz : (L.map er)[m0]? = some z := by
                    have h1 := hz1.out
                    rw [shG_low (by omega) (by simp; omega), List.getElem?_append_left (by simp; omega)] at h1
                    exact h1
                  have TE_ := hput z
                  rw [shG_step hzz] at TE_
                  have TE := hid TE_.out.drew1
                  have WE_ : Hid (Below wk.heap.size wk (wC.setCell ⟨gE, m0 + 1, none⟩ (.int .i64 z)).drew) := below_drew1 (WC_.out.setCell (p := ⟨gE, m0 + 1, none⟩) (by show wk.heap.size ≤ gE; omega) _)
                  have hqx : wk.heap.size < (wC.setCell ⟨gE, m0 + 1, none⟩ (.int .i64 z)).drew.heap.size := by show _ < (wC.setCell ⟨gE, m0 + 1, none⟩ (.int .i64 z)).heap.size; simp; omega
                  clear TE_ hput hz1 hz2 hzz
                  go_big_region
                  generalize (wC.setCell ⟨gE, m0 + 1, none⟩ (.int .i64 z)).drew = wE at TE WE_ hqx ⊢
                  clear hc1 hf1 hc2 hf2 b0 b1 b2 b3

                  go_wp2
                  exact ⟨⟨m0, by omega, by omega, by go_num, TE, WE_, hqx⟩, by simp [intOf]⟩
                · have hgti : ¬ (j : Int) < (m : Int) := by omega
                  obtain rfl : m = j := by omega
                  have hcy7 : wr.cell? ⟨b, o + i, none⟩ = some (.int .i64 y) := (hWm.out.cell (World.block_lt_of_cell? _ _ HCY.out)).trans HCY.out
                  have hbw := World.block_lt_of_cell? _ _ HCY.out
                  have hbw' : b < wk.heap.size := hbw
                  have i1 : (m : Int) < (n1 : Int) := by omega
                  have i3 : (0 : Int) ≤ (m : Int) := by omega
                  obtain ⟨b0, b1, b2, b3⟩ := hTm.out.cells
                  obtain ⟨gx, cx, z, hv1, hgq, hgl, hc1, hf1, hz1, hput⟩ := hTm.out.putK (j := m) (by rw [shG_length hmL]; omega)
                  injection hv1 with hv1 u1 u2; clear u1 u2; injection hv1 with hv1; injection hv1 with hv1
                  subst hv1
                  have TK := hid (hput y).out.drew1
                  have WK_ : Hid (Below wk.heap.size wk (wr.setCell ⟨gK, m, none⟩ (.int .i64 y)).drew) := below_drew1 (hWm.out.setCell (p := ⟨gK, m, none⟩) (by show wk.heap.size ≤ gK; omega) _)
                  have hqx : wk.heap.size < (wr.setCell ⟨gK, m, none⟩ (.int .i64 y)).drew.heap.size := by show _ < (wr.setCell ⟨gK, m, none⟩ (.int .i64 y)).heap.size; simp; omega
                  clear hz1 hput hTm
                  go_wp2
                  go_big_region
                  generalize (wr.setCell ⟨gK, m, none⟩ (.int .i64 y)).drew = wK at TK WK_ hqx ⊢
                  clear hc1 hf1 b0 b1 b2 b3 hcy7 hbw hbw'
                  obtain ⟨b0, b1, b2, b3⟩ := TK.out.cells
                  obtain ⟨gx, cx, z, hv1, hgqC, hglC, hc1, hf1, hz1, hputC⟩ := TK.out.putC (j := m) (by rw [shG_length (by simp; omega)]; simp; omega)
                  obtain ⟨gx2, cx2, z2, hv2, hgqE, hglE, hc2, hf2, hz2, -⟩ := TK.out.putE (j := m) (by rw [shG_length (by simp; omega)]; simp; omega)
                  injection hv1 with hv1 u1 u2; clear u1 u2; injection hv1 with hv1; injection hv1 with hv1
                  injection hv2 with hv2 u1 u2; clear u1 u2; injection hv2 with hv2; injection hv2 with hv2
                  subst hv1
                  subst hv2
                  have TC := hputC (ha + hb)
                  obtain ⟨gx2, cx2, z2, hv2, -, -, -, -, -, hputE⟩ := TC.out.putE (j := m) (by rw [shG_length (by simp; omega)]; simp; omega)
                  injection hv2 with hv2 u1 u2; clear u1 u2; injection hv2 with hv2; injection hv2 with hv2
                  subst hv2
                  have TE := hputE (ha + hb - la - lb)
                  have hce := TK.out.ce gC rfl
                  have hce2 : gE ≠ gC := fun e => hce (by rw [e]; rfl)
                  have hce3 : gC ≠ gE := Ne.symm hce2
                  have hcq : gC ≠ wk.heap.size := by omega
                  have hcq2 : wk.heap.size ≠ gC := by omega
                  have a1_ : IntKind.i64.wrap (ha + hb) = ha + hb := by rw [IntKind.wrap_i64]; omega
                  have a2_ : IntKind.i64.wrap (ha + hb - la) = ha + hb - la := by rw [IntKind.wrap_i64]; omega
                  have a3_ : IntKind.i64.wrap (ha + hb - la - lb) = ha + hb - la - lb := by rw [IntKind.wrap_i64]; omega
                  have WC_ : Hid (Below wk.heap.size wk (wK.setCell ⟨gC, m, none⟩ (.int .i64 (ha + hb)))) := WK_.out.setCell (p := ⟨gC, m, none⟩) (by show wk.heap.size ≤ gC; omega) _
                  have WE_ : Hid (Below wk.heap.size wk ((wK.setCell ⟨gC, m, none⟩ (.int .i64 (ha + hb))).setCell ⟨gE, m, none⟩ (.int .i64 (ha + hb - la - lb)))) := WC_.out.setCell (p := ⟨gE, m, none⟩) (by show wk.heap.size ≤ gE; omega) _
                  have hqf : wk.heap.size < ((wK.setCell ⟨gC, m, none⟩ (.int .i64 (ha + hb))).setCell ⟨gE, m, none⟩ (.int .i64 (ha + hb - la - lb))).heap.size := by simp; omega
                  have TF : Hid (TpS ((wK.setCell ⟨gC, m, none⟩ (.int .i64 (ha + hb))).setCell ⟨gE, m, none⟩ (.int .i64 (ha + hb - la - lb))) wk.heap.size ra (.slice (some ⟨gK, 0, none⟩) n1 cK2) (.slice (some ⟨gC, 0, none⟩) n1 cC2) (.slice (some ⟨gE, 0, none⟩) n1 cE2) (insR (ltU up) L y) ((insR (ltU up) L y).map up) ((insR (ltU up) L y).map er)) := by
                    show TpS _ _ _ _ _ _ _ _ _
                    have h1 : (shG 0 L m).set m y = insR (ltU up) L y := by rw [shG_put hmL]; unfold insR; rw [HJP.out]
                    have h2 : (shG 0 (L.map up) m).set m (ha + hb) = (insR (ltU up) L y).map up := by rw [shG_put (by rw [List.length_map]; exact hmL)]; unfold insR; rw [HJP.out, List.map_append, List.map_cons, List.map_take, List.map_drop, UPY.out]
                    have h3 : (shG 0 (L.map er) m).set m (ha + hb - la - lb) = (insR (ltU up) L y).map er := by rw [shG_put (by rw [List.length_map]; exact hmL)]; unfold insR; rw [HJP.out, List.map_append, List.map_cons, List.map_take, List.map_drop, ERY.out]
                    have h4 := TE.out
                    rw [h1, h2, h3] at h4
                    exact h4
                  have HLN : Hid (insR (ltU up) L y = isrt (ltU up) (K.take (i + 1))) := by show _ = _; rw [isrt_at hy.out, ← hL.out]
                  clear hputC hputE TC TE TK hz1 hz2 hce
                  go_wp2
                  clear a1_ a2_ a3_
                  exact ⟨⟨i + 1, _, _, _, _, hlt, by go_num, HLN, TF, WE_, hqf⟩, by simp [intOf]; omega⟩

            · obtain ⟨z, hz⟩ : ∃ z, L[j - 1]? = some z := ⟨_, List.getElem?_eq_getElem (by omega)⟩
              have hzu : (L.map up)[j - 1]? = some (up z) := by rw [List.getElem?_map, hz]; rfl
              obtain ⟨b0, b1, b2, b3⟩ := T7.out.cells
              obtain ⟨g0, c0', y', hg0, -, -, hcC, -, hym, -⟩ := T7.out.putC (j := j - 1) (by rw [List.length_map]; omega)
              injection hg0 with hg0 u1 u2; clear u1 u2
              subst hg0
              obtain rfl : y' = up z := by have h1 := hym.out; rw [hzu] at h1; injection h1 with h1; exact h1.symm
              obtain ⟨uz, huz⟩ : ∃ uz, uz = up z := ⟨_, rfl⟩
              rw [← huz] at hcC
              have e3 : ((j : Int) - 1).toNat = j - 1 := by omega
              have e4 : (j : Int) - 1 < (L.length : Int) := by omega
              have e5 : (0 : Int) ≤ (j : Int) - 1 := by omega
              have e6 : IntKind.i64.wrap ((j : Int) - 1) = (j : Int) - 1 := by rw [IntKind.wrap_i64]; have := HKL.out; omega
              have hltv : ltU up y z = decide (uz < ha + hb) := by unfold ltU; rw [UPY.out, huz]
              have hstep : Hid (uz < ha + hb → posR (ltU up) y L (j - 1) = posR (ltU up) y L L.length) := fun h => by
                rw [← hpos.out]
                have := posR_go (lt := ltU up) (x := y) hz (by rw [hltv]; exact decide_eq_true h)
                rw [show j - 1 + 1 = j by omega] at this
                exact this.symm
              have hstop : Hid (¬ uz < ha + hb → posR (ltU up) y L L.length = j) := fun h => by
                rw [← hpos.out]
                have := posR_stop (lt := ltU up) (x := y) hz (by rw [hltv]; exact decide_eq_false h)
                rw [show j - 1 + 1 = j by omega] at this
                exact this
              have hsum : IntKind.i64.wrap (ha + hb) = ha + hb := by rw [IntKind.wrap_i64]; omega
              by_cases hlu : uz < ha + hb
              · have hp2 : Hid (posR (ltU up) y L (j - 1) = posR (ltU up) y L L.length) := hstep.out hlu
                have e7 : Hid ((j : Int) - 1 = ((j - 1 : Nat) : Int)) := by show _ = _; omega
                clear hstep hstop hym hz hzu hltv huz
                go_wp2
                exact ⟨⟨j - 1, by omega, by rw [e7.out], hp2⟩, by simp [intOf]; omega⟩
              · have HJP : Hid (posR (ltU up) y L L.length = j) := hstop.out hlu
                clear hstep hstop hym hz hzu hltv huz hpos e3 e4 e5 e6
                clear b0 b1 b2 b3
                obtain ⟨n1, hn1⟩ : ∃ n1, n1 = L.length + 1 := ⟨_, rfl⟩
                have NL : Hid (L.length + 1 = n1) := hn1.symm
                have hn1' : n1 ≤ L.length + 1 ∧ L.length + 1 ≤ n1 := by omega
                clear hn1
                have hLl : L.length ≤ 1048577 := by have := HKL.out; omega
                have hLu : (L.map up).length ≤ 1048577 := by rw [List.length_map]; exact hLl
                have hLe : (L.map er).length ≤ 1048577 := by rw [List.length_map]; exact hLl
                obtain ⟨b0, b1, b2, b3⟩ := T7.out.cells
                go_wp2_with (at_builtin; refine app_int rfl _ _ rfl 0 T7.out.k (Below.refl (wk.heap.size + 1) w7) rfl rfl hLl hq7 ?_)
                intro v1 w8 O8 W8 hg8 K8
                obtain ⟨gK, cK2, -, hvK, hgK, -, -, -, -, -⟩ := O8.out.put (j := 0) (by simp)
                rw [List.length_append, List.length_singleton, NL.out] at hvK
                subst hvK
                have T8 := hid (T7.out.fieldK O8.out K8.out W8.out)
                have X8 : Hid (Below wk.heap.size wk w8) := W7.out.trans (W8.out.mono (Nat.le_succ _))
                have hq8 : wk.heap.size + 1 ≤ (w8.setCell ⟨wk.heap.size, 1, none⟩ (.slice (some ⟨gK, 0, none⟩) n1 cK2)).heap.size := by have := hg8.out; simp; omega
                have B8 : Blk w8 wk.heap.size 33 _ := (W8.out.block _ (Nat.lt_succ_self _)).trans T7.out.box
                obtain ⟨y0, y1, y2, y3⟩ := B8.cells4
                have yf := B8.frozen 1
                clear O8 K8 b0 b1 b2 b3 hcC hsum
                go_wp2_with (at_builtin; refine app_int rfl _ _ rfl 0 T8.out.c (Below.refl (wk.heap.size + 1) (w8.setCell ⟨wk.heap.size, 1, none⟩ (.slice (some ⟨gK, 0, none⟩) n1 cK2))) rfl (by show Value.slice (some ⟨w8.heap.size, 0, none⟩) 1 1 = _; simp) hLu hq8 ?_)
                intro v2 w9 O9 W9 hg9 K9
                obtain ⟨gC, cC2, -, hvC, hgC, -, -, -, -, -⟩ := O9.out.put (j := 0) (by simp)
                rw [List.length_append, List.length_singleton, List.length_map, NL.out] at hvC
                subst hvC
                have T9 := hid (T8.out.fieldC O9.out K9.out W9.out)
                have X8' : Hid (Below wk.heap.size wk (w8.setCell ⟨wk.heap.size, 1, none⟩ (.slice (some ⟨gK, 0, none⟩) n1 cK2))) := X8.out.setCell (p := ⟨wk.heap.size, 1, none⟩) (Nat.le_refl _) _
                have X9 : Hid (Below wk.heap.size wk w9) := X8'.out.trans (W9.out.mono (Nat.le_succ _))
                have hq9 : wk.heap.size + 1 ≤ (w9.setCell ⟨wk.heap.size, 2, none⟩ (.slice (some ⟨gC, 0, none⟩) n1 cC2)).heap.size := by have := hg9.out; simp at this ⊢; have := hg8.out; omega
                have B9 : Blk w9 wk.heap.size 33 _ := (W9.out.block _ (Nat.lt_succ_self _)).trans T8.out.box
                clear y0 y1 y2 y3 yf B8
                obtain ⟨y0, y1, y2, y3⟩ := B9.cells4
                have yf := B9.frozen 2
                clear O9 K9
                go_wp2_with (at_builtin; refine app_int rfl _ _ rfl 0 T9.out.e (Below.refl (wk.heap.size + 1) (w9.setCell ⟨wk.heap.size, 2, none⟩ (.slice (some ⟨gC, 0, none⟩) n1 cC2))) rfl (by show Value.slice (some ⟨w9.heap.size, 0, none⟩) 1 1 = _; simp) hLe hq9 ?_)
                intro v3 w10 O10 W10 hg10 K10
                obtain ⟨gE, cE2, -, hvE, hgE, -, -, -, -, -⟩ := O10.out.put (j := 0) (by simp)
                rw [List.length_append, List.length_singleton, List.length_map, NL.out] at hvE
                subst hvE
                have T10 := hid (T9.out.fieldE O10.out K10.out W10.out)
                have X9' : Hid (Below wk.heap.size wk (w9.setCell ⟨wk.heap.size, 2, none⟩ (.slice (some ⟨gC, 0, none⟩) n1 cC2))) := X9.out.setCell (p := ⟨wk.heap.size, 2, none⟩) (Nat.le_refl _) _
                have X10 : Hid (Below wk.heap.size wk (w10.setCell ⟨wk.heap.size, 3, none⟩ (.slice (some ⟨gE, 0, none⟩) n1 cE2))) := (X9'.out.trans (W10.out.mono (Nat.le_succ _))).setCell (p := ⟨wk.heap.size, 3, none⟩) (Nat.le_refl _) _
                have hq10 : wk.heap.size < (w10.setCell ⟨wk.heap.size, 3, none⟩ (.slice (some ⟨gE, 0, none⟩) n1 cE2)).heap.size := by have := W10.out.size; simp at this hq9 ⊢; omega
                have B10 : Blk w10 wk.heap.size 33 _ := (W10.out.block _ (Nat.lt_succ_self _)).trans T9.out.box
                clear y0 y1 y2 y3 yf B9
                obtain ⟨y0, y1, y2, y3⟩ := B10.cells4
                have yf := B10.frozen 3
                clear O10 K10 T8 T9 X8 X8' X9 X9' W8 W9 W10 hg8 hg9 hg10
                have T11 : Hid (TpS (w10.setCell ⟨wk.heap.size, 3, none⟩ (.slice (some ⟨gE, 0, none⟩) n1 cE2)) wk.heap.size ra (.slice (some ⟨gK, 0, none⟩) n1 cK2) (.slice (some ⟨gC, 0, none⟩) n1 cC2) (.slice (some ⟨gE, 0, none⟩) n1 cE2) (shG 0 L L.length) (shG 0 (L.map up) L.length) (shG 0 (L.map er) L.length)) := by
                  show TpS _ _ _ _ _ _ _ _ _
                  have h1 := shG_top (z0 := (0 : Int)) L
                  have h2 := shG_top (z0 := (0 : Int)) (L.map up)
                  have h3 := shG_top (z0 := (0 : Int)) (L.map er)
                  rw [List.length_map] at h2 h3
                  rw [h1, h2, h3]; exact T10.out
                have e0 : IntKind.i64.wrap ((n1 : Int) - 1) = (L.length : Int) := by rw [IntKind.wrap_i64]; omega
                clear T10
                go_wp2
                clear y0 y1 y2 y3 yf e0 B10
                go_loopw [15] (fun t wq => ∃ m : Nat, j ≤ m ∧ m ≤ L.length ∧ t = .int .i64 m ∧ Hid (TpS wq wk.heap.size ra (.slice (some ⟨gK, 0, none⟩) n1 cK2) (.slice (some ⟨gC, 0, none⟩) n1 cC2) (.slice (some ⟨gE, 0, none⟩) n1 cE2) (shG 0 L m) (shG 0 (L.map up) m) (shG 0 (L.map er) m)) ∧ Hid (Below wk.heap.size wk wq) ∧ wk.heap.size < wq.heap.size) (fun t _ => (intOf t).toNat)
                case atStart => exact ⟨L.length, hjL, Nat.le_refl _, rfl, T11, X10, hq10⟩
                case round =>
                  clear T11 X10 hq10
                  obtain ⟨m, hjm, hmL, rfl, hTm, hWm, hqm⟩ := hrel
                  by_cases hgt : j < m
                  · have hgti : (j : Int) < (m : Int) := by omega
                    obtain ⟨m0, rfl⟩ : ∃ m0, m = m0 + 1 := ⟨m - 1, by omega⟩
                    have w1 : IntKind.i64.wrap (((m0 + 1 : Nat) : Int) - 1) = (m0 : Int) := by rw [IntKind.wrap_i64]; omega
                    have w2_ : IntKind.i64.wrap ((m0 : Int) + 1 - 1) = (m0 : Int) := by rw [IntKind.wrap_i64]; omega
                    have i1 : (m0 : Int) < (n1 : Int) := by omega
                    have i2 : ((m0 + 1 : Nat) : Int) < (n1 : Int) := by omega
                    have i2' : (m0 : Int) + 1 < (n1 : Int) := by omega
                    have i3 : (0 : Int) ≤ (m0 : Int) := by omega
                    go_wp2
                    obtain ⟨b0, b1, b2, b3⟩ := hTm.out.cells
                    obtain ⟨gx, cx, z, hv1, hgq, hgl, hc1, hf1, hz1, -⟩ := hTm.out.putK (j := m0) (by rw [shG_length (by omega)]; omega)
                    obtain ⟨gx2, cx2, z2, hv2, hgq2, hgl2, hc2, hf2, hz2, hput⟩ := hTm.out.putK (j := m0 + 1) (by rw [shG_length (by omega)]; omega)
                    injection hv1 with hv1 u1 u2; clear u1 u2; injection hv1 with hv1; injection hv1 with hv1
                    injection hv2 with hv2 u1 u2; clear u1 u2; injection hv2 with hv2; injection hv2 with hv2
                    subst hv1
                    subst hv2
                    have hzz : L[m0]? = some z := by
                      have h1 := hz1.out
                      rw [shG_low (by omega) (by omega), List.getElem?_append_left (by omega)] at h1
                      exact h1
                    have TK_ := hput z
                    rw [shG_step hzz] at TK_
                    have TK := hid TK_.out.drew1
                    have WK_ : Hid (Below wk.heap.size wk (wr.setCell ⟨gK, m0 + 1, none⟩ (.int .i64 z)).drew) := below_drew1 (hWm.out.setCell (p := ⟨gK, m0 + 1, none⟩) (by show wk.heap.size ≤ gK; omega) _)
                    have hqx : wk.heap.size < (wr.setCell ⟨gK, m0 + 1, none⟩ (.int .i64 z)).drew.heap.size := by show _ < (wr.setCell ⟨gK, m0 + 1, none⟩ (.int .i64 z)).heap.size; simp; omega
                    clear TK_ hput hz1 hz2 hzz
                    go_big_region
                    generalize (wr.setCell ⟨gK, m0 + 1, none⟩ (.int .i64 z)).drew = wK at TK WK_ hqx ⊢
                    clear hc1 hf1 hc2 hf2 b0 b1 b2 b3
                    go_wp2
                    obtain ⟨b0, b1, b2, b3⟩ := TK.out.cells
                    obtain ⟨gx, cx, z, hv1, hgq, hgl, hc1, hf1, hz1, -⟩ := TK.out.putC (j := m0) (by rw [shG_length (by simp; omega)]; simp; omega)
                    obtain ⟨gx2, cx2, z2, hv2, hgq2, hgl2, hc2, hf2, hz2, hput⟩ := TK.out.putC (j := m0 + 1) (by rw [shG_length (by simp; omega)]; simp; omega)
                    injection hv1 with hv1 u1 u2; clear u1 u2; injection hv1 with hv1; injection hv1 with hv1
                    injection hv2 with hv2 u1 u2; clear u1 u2; injection hv2 with hv2; injection hv2 with hv2
                    subst hv1
                    subst hv2
                    have hzz : (L.map up)[m0]? = some z := by
                      have h1 := hz1.out
                      rw [shG_low (by omega) (by simp; omega), List.getElem?_append_left (by simp; omega)] at h1
                      exact h1
                    have TC_ := hput z
                    rw [shG_step hzz] at TC_
                    have TC := hid TC_.out.drew1
                    have WC_ : Hid (Below wk.heap.size wk (wK.setCell ⟨gC, m0 + 1, none⟩ (.int .i64 z)).drew) := below_drew1 (WK_.out.setCell (p := ⟨gC, m0 + 1, none⟩) (by show wk.heap.size ≤ gC; omega) _)
                    have hqx : wk.heap.size < (wK.setCell ⟨gC, m0 + 1, none⟩ (.int .i64 z)).drew.heap.size := by show _ < (wK.setCell ⟨gC, m0 + 1, none⟩ (.int .i64 z)).heap.size; simp; omega
                    clear TC_ hput hz1 hz2 hzz
                    go_big_region
                    generalize (wK.setCell ⟨gC, m0 + 1, none⟩ (.int .i64 z)).drew = wC at TC WC_ hqx ⊢
                    clear hc1 hf1 hc2 hf2 b0 b1 b2 b3
                    go_wp2
                    obtain ⟨b0, b1, b2, b3⟩ := TC.out.cells
                    obtain ⟨gx, cx, z, hv1, hgq, hgl, hc1, hf1, hz1, -⟩ := TC.out.putE (j := m0) (by rw [shG_length (by simp; omega)]; simp; omega)
                    obtain ⟨gx2, cx2, z2, hv2, hgq2, hgl2, hc2, hf2, hz2, hput⟩ := TC.out.putE (j := m0 + 1) (by rw [shG_length (by simp; omega)]; simp; omega)
                    injection hv1 with hv1 u1 u2; clear u1 u2; injection hv1 with hv1; injection hv1 with hv1
                    injection hv2 with hv2 u1 u2; clear u1 u2; injection hv2 with hv2; injection hv2 with hv2
                    subst hv1
                    subst hv2
                    have hzz : (L.map er)[m0]? = some z := by
                      have h1 := hz1.out
                      rw [shG_low (by omega) (by simp; omega), List.getElem?_append_left (by simp; omega)] at h1
                      exact h1
                    have TE_ := hput z
                    rw [shG_step hzz] at TE_
                    have TE := hid TE_.out.drew1
                    have WE_ : Hid (Below wk.heap.size wk (wC.setCell ⟨gE, m0 + 1, none⟩ (.int .i64 z)).drew) := below_drew1 (WC_.out.setCell (p := ⟨gE, m0 + 1, none⟩) (by show wk.heap.size ≤ gE; omega) _)
                    have hqx : wk.heap.size < (wC.setCell ⟨gE, m0 + 1, none⟩ (.int .i64 z)).drew.heap.size := by show _ < (wC.setCell ⟨gE, m0 + 1, none⟩ (.int .i64 z)).heap.size; simp; omega
                    clear TE_ hput hz1 hz2 hzz
                    go_big_region
                    generalize (wC.setCell ⟨gE, m0 + 1, none⟩ (.int .i64 z)).drew = wE at TE WE_ hqx ⊢
                    clear hc1 hf1 hc2 hf2 b0 b1 b2 b3

                    go_wp2
                    exact ⟨⟨m0, by omega, by omega, by go_num, TE, WE_, hqx⟩, by simp [intOf]⟩
                  · have hgti : ¬ (j : Int) < (m : Int) := by omega
                    obtain rfl : m = j := by omega
                    have hcy7 : wr.cell? ⟨b, o + i, none⟩ = some (.int .i64 y) := (hWm.out.cell (World.block_lt_of_cell? _ _ HCY.out)).trans HCY.out
                    have hbw := World.block_lt_of_cell? _ _ HCY.out
                    have hbw' : b < wk.heap.size := hbw
                    have i1 : (m : Int) < (n1 : Int) := by omega
                    have i3 : (0 : Int) ≤ (m : Int) := by omega
                    obtain ⟨b0, b1, b2, b3⟩ := hTm.out.cells
                    obtain ⟨gx, cx, z, hv1, hgq, hgl, hc1, hf1, hz1, hput⟩ := hTm.out.putK (j := m) (by rw [shG_length hmL]; omega)
                    injection hv1 with hv1 u1 u2; clear u1 u2; injection hv1 with hv1; injection hv1 with hv1
                    subst hv1
                    have TK := hid (hput y).out.drew1
                    have WK_ : Hid (Below wk.heap.size wk (wr.setCell ⟨gK, m, none⟩ (.int .i64 y)).drew) := below_drew1 (hWm.out.setCell (p := ⟨gK, m, none⟩) (by show wk.heap.size ≤ gK; omega) _)
                    have hqx : wk.heap.size < (wr.setCell ⟨gK, m, none⟩ (.int .i64 y)).drew.heap.size := by show _ < (wr.setCell ⟨gK, m, none⟩ (.int .i64 y)).heap.size; simp; omega
                    clear hz1 hput hTm
                    go_wp2
                    go_big_region
                    generalize (wr.setCell ⟨gK, m, none⟩ (.int .i64 y)).drew = wK at TK WK_ hqx ⊢
                    clear hc1 hf1 b0 b1 b2 b3 hcy7 hbw hbw'
                    obtain ⟨b0, b1, b2, b3⟩ := TK.out.cells
                    obtain ⟨gx, cx, z, hv1, hgqC, hglC, hc1, hf1, hz1, hputC⟩ := TK.out.putC (j := m) (by rw [shG_length (by simp; omega)]; simp; omega)
                    obtain ⟨gx2, cx2, z2, hv2, hgqE, hglE, hc2, hf2, hz2, -⟩ := TK.out.putE (j := m) (by rw [shG_length (by simp; omega)]; simp; omega)
                    injection hv1 with hv1 u1 u2; clear u1 u2; injection hv1 with hv1; injection hv1 with hv1
                    injection hv2 with hv2 u1 u2; clear u1 u2; injection hv2 with hv2; injection hv2 with hv2
                    subst hv1
                    subst hv2
                    have TC := hputC (ha + hb)
                    obtain ⟨gx2, cx2, z2, hv2, -, -, -, -, -, hputE⟩ := TC.out.putE (j := m) (by rw [shG_length (by simp; omega)]; simp; omega)
                    injection hv2 with hv2 u1 u2; clear u1 u2; injection hv2 with hv2; injection hv2 with hv2
                    subst hv2
                    have TE := hputE (ha + hb - la - lb)
                    have hce := TK.out.ce gC rfl
                    have hce2 : gE ≠ gC := fun e => hce (by rw [e]; rfl)
                    have hce3 : gC ≠ gE := Ne.symm hce2
                    have hcq : gC ≠ wk.heap.size := by omega
                    have hcq2 : wk.heap.size ≠ gC := by omega
                    have a1_ : IntKind.i64.wrap (ha + hb) = ha + hb := by rw [IntKind.wrap_i64]; omega
                    have a2_ : IntKind.i64.wrap (ha + hb - la) = ha + hb - la := by rw [IntKind.wrap_i64]; omega
                    have a3_ : IntKind.i64.wrap (ha + hb - la - lb) = ha + hb - la - lb := by rw [IntKind.wrap_i64]; omega
                    have WC_ : Hid (Below wk.heap.size wk (wK.setCell ⟨gC, m, none⟩ (.int .i64 (ha + hb)))) := WK_.out.setCell (p := ⟨gC, m, none⟩) (by show wk.heap.size ≤ gC; omega) _
                    have WE_ : Hid (Below wk.heap.size wk ((wK.setCell ⟨gC, m, none⟩ (.int .i64 (ha + hb))).setCell ⟨gE, m, none⟩ (.int .i64 (ha + hb - la - lb)))) := WC_.out.setCell (p := ⟨gE, m, none⟩) (by show wk.heap.size ≤ gE; omega) _
                    have hqf : wk.heap.size < ((wK.setCell ⟨gC, m, none⟩ (.int .i64 (ha + hb))).setCell ⟨gE, m, none⟩ (.int .i64 (ha + hb - la - lb))).heap.size := by simp; omega
                    have TF : Hid (TpS ((wK.setCell ⟨gC, m, none⟩ (.int .i64 (ha + hb))).setCell ⟨gE, m, none⟩ (.int .i64 (ha + hb - la - lb))) wk.heap.size ra (.slice (some ⟨gK, 0, none⟩) n1 cK2) (.slice (some ⟨gC, 0, none⟩) n1 cC2) (.slice (some ⟨gE, 0, none⟩) n1 cE2) (insR (ltU up) L y) ((insR (ltU up) L y).map up) ((insR (ltU up) L y).map er)) := by
                      show TpS _ _ _ _ _ _ _ _ _
                      have h1 : (shG 0 L m).set m y = insR (ltU up) L y := by rw [shG_put hmL]; unfold insR; rw [HJP.out]
                      have h2 : (shG 0 (L.map up) m).set m (ha + hb) = (insR (ltU up) L y).map up := by rw [shG_put (by rw [List.length_map]; exact hmL)]; unfold insR; rw [HJP.out, List.map_append, List.map_cons, List.map_take, List.map_drop, UPY.out]
                      have h3 : (shG 0 (L.map er) m).set m (ha + hb - la - lb) = (insR (ltU up) L y).map er := by rw [shG_put (by rw [List.length_map]; exact hmL)]; unfold insR; rw [HJP.out, List.map_append, List.map_cons, List.map_take, List.map_drop, ERY.out]
                      have h4 := TE.out
                      rw [h1, h2, h3] at h4
                      exact h4
                    have HLN : Hid (insR (ltU up) L y = isrt (ltU up) (K.take (i + 1))) := by show _ = _; rw [isrt_at hy.out, ← hL.out]
                    clear hputC hputE TC TE TK hz1 hz2 hce
                    go_wp2
                    clear a1_ a2_ a3_
                    exact ⟨⟨i + 1, _, _, _, _, hlt, by go_num, HLN, TF, WE_, hqf⟩, by simp [intOf]; omega⟩

        · have hil : ¬ (i : Int) < (K.length : Int) := by omega
          obtain rfl : i = K.length := by omega
          have hLS : L = srtU up K := by rw [hL.out, List.take_of_length_le (Nat.le_refl _)]; rfl
          obtain ⟨nf, hnf⟩ : ∃ nf, nf = min ra.toNat L.length := ⟨_, rfl⟩
          have hKF : Hid (KF = L.take nf) := by
            show _ = _
            rw [KFE.out, ← hLS, hnf]
            rcases Nat.le_total ra.toNat L.length with h | h
            · rw [Nat.min_eq_left h]
            · rw [Nat.min_eq_right h, List.take_of_length_le h, List.take_length]
          have CN : Hid (∀ w', Calls Try.prog 90 #[.int .i64 ra, .int .i64 (L.length : Int)] w' fun e w'' => e = .returned (.int .i64 (nf : Int)) ∧ w' = w'') := fun w' => by
            have h := l00Min_any' ra (L.length : Int) w'
            rw [show min ra (L.length : Int) = (nf : Int) by omega] at h
            exact h
          have hnL : nf ≤ L.length := by omega
          obtain ⟨k1, k2, -⟩ := hT.out.k.cap
          obtain ⟨k3, k4, -⟩ := hT.out.c.cap
          obtain ⟨k5, k6, -⟩ := hT.out.e.cap
          rw [List.length_map] at k3 k5
          have s1 : (nf : Int) ≤ (cK : Int) := by omega
          have s2 : (nf : Int) ≤ (cC : Int) := by omega
          have s3 : (nf : Int) ≤ (cE : Int) := by omega
          have s0 : (0 : Int) ≤ (nf : Int) := by omega
          obtain ⟨b0, b1, b2, b3⟩ := hT.out.cells
          have bf1 := hT.out.box.frozen 1
          have bf2 := hT.out.box.frozen 2
          have bf3 := hT.out.box.frozen 3
          obtain ⟨x0, x1, x2, x3⟩ := (BA2.out.below (WK.out.trans (hW.out.mono hqw))).cells4
          have hwx : w.heap.size < wr.heap.size := by omega
          clear hnf hLS hL hi
          go_wp2_with (go_at_call 90; refine (CN.out _).mono ?_; rintro e w' ⟨rfl, rfl⟩)
          have hbW := hid (WK.out.trans (hW.out.mono hqw))
          have hqn : wk.heap.size ≠ w.heap.size + 2 := by omega
          have hqn2 : w.heap.size + 1 + 1 ≠ wk.heap.size := by omega
          have WX : Hid (Below w.heap.size w (((wr.setCell ⟨wk.heap.size, 1, none⟩ (.slice AK nf cK)).setCell ⟨wk.heap.size, 2, none⟩ (.slice AC nf cC)).setCell ⟨wk.heap.size, 3, none⟩ (.slice AE nf cE))) :=
            (((S2.out.trans (hbW.out.mono S2.out.size)).setCell (p := ⟨wk.heap.size, 1, none⟩) (by show w.heap.size ≤ wk.heap.size; omega) _).setCell (p := ⟨wk.heap.size, 2, none⟩) (by show w.heap.size ≤ wk.heap.size; omega) _).setCell (p := ⟨wk.heap.size, 3, none⟩) (by show w.heap.size ≤ wk.heap.size; omega) _
          have RX := hid ((((R2.out.below hbW.out).far (p := ⟨wk.heap.size, 1, none⟩) hqn2 (.slice AK nf cK)).far (p := ⟨wk.heap.size, 2, none⟩) hqn2 (.slice AC nf cC)).far (p := ⟨wk.heap.size, 3, none⟩) hqn2 (.slice AE nf cE))
          have BX := hid (((hT.out.box.set_ 1 (.slice AK nf cK)).set_ 2 (.slice AC nf cC)).set_ 3 (.slice AE nf cE))
          have lt1 := Nat.lt_succ_self wk.heap.size
          have KX := hid (((hT.out.k.fieldSet lt1 1 (.slice AK nf cK)).fieldSet lt1 2 (.slice AC nf cC)).fieldSet lt1 3 (.slice AE nf cE))
          have CX := hid (((hT.out.c.fieldSet lt1 1 (.slice AK nf cK)).fieldSet lt1 2 (.slice AC nf cC)).fieldSet lt1 3 (.slice AE nf cE))
          have EX := hid (((hT.out.e.fieldSet lt1 1 (.slice AK nf cK)).fieldSet lt1 2 (.slice AC nf cC)).fieldSet lt1 3 (.slice AE nf cE))
          have AP1 := hid hT.out.kc
          have AP2 := hid hT.out.ke
          have AP3 := hid hT.out.ce
          have hCF : Hid (CF = (L.map up).take nf) := by show _ = _; rw [CFE.out, hKF.out, List.map_take]
          have hEF : Hid (EF = (L.map er).take nf) := by show _ = _; rw [EFE.out, hKF.out, List.map_take]
          have nK : Hid (KF.length = nf) := by show _ = _; rw [hKF.out, List.length_take]; omega
          have nC : Hid (CF.length = nf) := by show _ = _; rw [hCF.out, List.length_take, List.length_map]; omega
          have nE : Hid (EF.length = nf) := by show _ = _; rw [hEF.out, List.length_take, List.length_map]; omega
          have hnf64 : nf ≤ 64 := by omega
          have hrz : w.heap.size + 3 ≤ wk.heap.size := by omega
          clear b0 b1 b2 b3 bf1 bf2 bf3 x0 x1 x2 x3 hT s0 s1 s2 s3
          generalize (((wr.setCell ⟨wk.heap.size, 1, none⟩ (.slice AK nf cK)).setCell ⟨wk.heap.size, 2, none⟩ (.slice AC nf cC)).setCell ⟨wk.heap.size, 3, none⟩ (.slice AE nf cE)) = w9 at WX RX BX KX CX EX ⊢
          obtain ⟨A1', c1', hv1, oK⟩ := KX.out.ownS
          obtain ⟨A2', c2', hv2, oC⟩ := CX.out.ownS
          obtain ⟨A3', c3', hv3, oE⟩ := EX.out.ownS
          injection hv1 with hv1 _ u1
          injection hv2 with hv2 _ u2
          injection hv3 with hv3 _ u3
          subst hv1 u1 hv2 u2 hv3 u3
          have OKF : Hid (OwnS (Value.int .i64) w9 (wk.heap.size + 1) 2 AK KF) := by show OwnS _ _ _ _ _ _; rw [hKF.out]; exact oK.take nf
          have OCF : Hid (OwnS (Value.int .i64) w9 (wk.heap.size + 1) 2 AC CF) := by show OwnS _ _ _ _ _ _; rw [hCF.out]; exact oC.take nf
          have OEF : Hid (OwnS (Value.int .i64) w9 (wk.heap.size + 1) 2 AE EF) := by show OwnS _ _ _ _ _ _; rw [hEF.out]; exact oE.take nf
          have P1 : Hid (Apart AK KF.length AC CF.length) := aptV_apart2 AP1.out
          have P2 : Hid (Apart AK KF.length AE EF.length) := aptV_apart2 AP2.out
          have P3 : Hid (Apart AC CF.length AE EF.length) := aptV_apart2 AP3.out
          obtain ⟨z0, z1, z2, z3⟩ := BX.out.cells4
          have CT : Hid (Calls Try.prog 66 #[.pointer (some ⟨wk.heap.size, 0, none⟩)] w9 fun en w' => en = .returned (.bool (vTops ra KF CF EF)) ∧ ∃ n, w' = w9.drewN n) :=
            l03Tops_cap wk.heap.size cK cC cE AK AC AE ra KF CF EF w9 z0 (by rw [nK.out]; exact z1) (by rw [nC.out]; exact z2) (by rw [nE.out]; exact z3) OKF.out.rd OCF.out.rd OEF.out.rd (by rw [nK.out]; omega) (by rw [nC.out]; omega) (by rw [nE.out]; omega) (by rw [nK.out]; omega) k2
          clear z0 z1 z2 z3 oK oC oE KX CX EX AP1 AP2 AP3
          refine CT.out.mono ?_
          cases hv : vTops ra KF CF EF with
          | true =>
            rintro e w10 ⟨rfl, n, hn⟩
            dsimp only
            have hG : Hid (giveT ra KF CF EF = ((ra, KF, CF, EF), true)) := by show _ = _; unfold giveT; rw [if_pos hv]
            have B10 : Hid (Blk w10 wk.heap.size 33 [.int .i64 ra, .slice AK nf cK, .slice AC nf cC, .slice AE nf cE]) := by rw [hn]; exact Blk.drewN BX.out n
            have R10 : Hid (Blk w10 (w.heap.size + 1 + 1) 33 [.int .i64 0, .slice none 0 0, .slice none 0 0, .slice none 0 0]) := by rw [hn]; exact Blk.drewN RX.out n
            have S10 : Hid (Below w.heap.size w w10) := by rw [hn]; exact below_drewN WX.out n
            have K10 : Hid (OwnS (Value.int .i64) w10 (wk.heap.size + 1) 2 AK KF) := by rw [hn]; exact OKF.out
            have C10 : Hid (OwnS (Value.int .i64) w10 (wk.heap.size + 1) 2 AC CF) := by rw [hn]; exact OCF.out
            have E10 : Hid (OwnS (Value.int .i64) w10 (wk.heap.size + 1) 2 AE EF) := by rw [hn]; exact OEF.out
            clear hn hv CT
            obtain ⟨z0, z1, z2, z3⟩ := B10.out.cells4
            obtain ⟨d0, d1, d2, d3⟩ := R10.out.cells4
            have f0 := R10.out.frozen 0
            have f1 := R10.out.frozen 1
            have f2 := R10.out.frozen 2
            have f3 := R10.out.frozen 3
            go_wp2
            refine bodyPost_ret (v := .tuple #[.agg #[.int .i64 ra, .slice AK nf cK, .slice AC nf cC, .slice AE nf cE], .bool true]) (by simp [results, Try.results39, go_sem, d0, d1, d2, d3]) rfl ?_
            rw [hG.out]
            refine ⟨AK, cK, AC, cC, AE, cE, ?_, ?_, ?_, ?_, ?_, ?_, ?_, P1.out, P2.out, P3.out, ?_⟩
            · show _ = Ending.returned (.tuple #[.agg #[.int .i64 ra, .slice AK KF.length cK, .slice AC CF.length cC, .slice AE EF.length cE], .bool true])
              rw [nK.out, nC.out, nE.out]
            · exact ((((K10.out.setFar (by simp <;> omega) _).setFar (by simp <;> omega) _).setFar (by simp <;> omega) _).setFar (by simp <;> omega) _).mono (by omega)
            · show KF.length ≤ _; rw [nK.out]; omega
            · exact ((((C10.out.setFar (by simp <;> omega) _).setFar (by simp <;> omega) _).setFar (by simp <;> omega) _).setFar (by simp <;> omega) _).mono (by omega)
            · show CF.length ≤ _; rw [nC.out]; omega
            · exact ((((E10.out.setFar (by simp <;> omega) _).setFar (by simp <;> omega) _).setFar (by simp <;> omega) _).setFar (by simp <;> omega) _).mono (by omega)
            · show EF.length ≤ _; rw [nE.out]; omega
            · exact (((S10.out.setCell (by simp <;> omega) _).setCell (by simp <;> omega) _).setCell (by simp <;> omega) _).setCell (by simp <;> omega) _
          | false =>
            rintro e w10 ⟨rfl, n, hn⟩
            dsimp only
            have hG : Hid (giveT ra KF CF EF = ((0, [], [], []), false)) := by show _ = _; unfold giveT; rw [hv]; rfl
            have R10 : Hid (Blk w10 (w.heap.size + 1 + 1) 33 [.int .i64 0, .slice none 0 0, .slice none 0 0, .slice none 0 0]) := by rw [hn]; exact Blk.drewN RX.out n
            have S1 : Hid (Below w.heap.size w w10) := by rw [hn]; exact below_drewN WX.out n
            clear hn hv CT
            obtain ⟨d0, d1, d2, d3⟩ := R10.out.cells4
            have f0 := R10.out.frozen 0
            have f1 := R10.out.frozen 1
            have f2 := R10.out.frozen 2
            have f3 := R10.out.frozen 3
            go_wp2
            refine bodyPost_ret (v := .tuple #[.agg #[.int .i64 0, .slice none 0 0, .slice none 0 0, .slice none 0 0], .bool false]) (by simp [results, Try.results39, go_sem, d0, d1, d2, d3]) rfl ?_
            rw [hG.out]
            refine retTp_no _ _ ⟨rfl, ?_⟩
            exact (((S1.out.setCell (by simp <;> omega) _).setCell (by simp <;> omega) _).setCell (by simp <;> omega) _).setCell (by simp <;> omega) _
end Go.Proofs.Ytbodfepfapjikaa
