/-
  FnExactPutLayers: the walk of the law, out of the contracts of spec.PutLayers and impl.PutLayers.
-/
import Derived.Test.YtnngepnfljkbhaaPutLI
import Derived.Test.YtnngepnfljkbhaaLayMark
import Derived.Test.YtnngepnfljkbhaaOpen
namespace Go.Proofs.Ytnngepnfljkbhaa
open Go.RowKit
set_option linter.unusedVariables false

theorem W64L.copy {L L' : List Lay} (h : W64L L) (hp : L'.map Lay.plain = L.map Lay.plain) : W64L L' := fun e he => by
  obtain ⟨f, hf, h1, h2, h3, h4⟩ := plain_mem hp he
  rw [← h1, ← h2, ← h3, ← h4]
  exact h f hf
theorem len_copy {L L' : List Lay} {M : Nat} (h : ∀ e ∈ L, e.x.length ≤ M) (hp : L'.map Lay.plain = L.map Lay.plain) : ∀ e ∈ L', e.x.length ≤ M := fun e he => by
  obtain ⟨f, hf, _, _, _, h4⟩ := plain_mem hp he
  rw [← h4]
  exact h f hf

theorem offL_le {L : List Lay} (h : ∀ e ∈ L, e.x.length ≤ 384) (n : Nat) : offL L n ≤ 387 * (n : Int) := by
  induction n with
  | zero => simp [offL]
  | succ n ih =>
    simp only [offL]
    cases hn : L[n]? with
    | none => simp; omega
    | some e => have := h e (List.mem_of_getElem? hn); simp; omega

/-- An own slice of cells behind the bound. -/
theorem OwnC.upper {w w' : World} {B N : Nat} {A : Option Addr} {L : List Lay} (h : OwnC w B A L) (hN : N ≤ B) (hu : ∀ b, N ≤ b → w'.heap[b]? = w.heap[b]?) : OwnC w' B A L :=
  ⟨fun hn => by
    obtain ⟨g, ex, hA, hB, hb⟩ := h.blk hn
    exact ⟨g, ex, hA, hB, (hu g (by omega)).trans hb⟩, fun i e he => (h.own i e he).upper hN hu, h.apart⟩

set_option maxHeartbeats 1600000 in
theorem FnExactPutLayers_any (A : Option Addr) (c : Nat) (L : List Lay) (a1 a2 : Int) (w : World) (hx : RdC w A L) (hm : L.length ≤ 9223372036854775807) (hl : ∀ e ∈ L, e.x.length ≤ 9223372036854775807) (hw : W64L L) (w1 : W64 a1) (w2 : W64 a2) :
    Calls Try.prog 13 #[.slice A L.length c, .int .i64 a1, .int .i64 a2] w fun e w' => e = .returned (.bool true) ∧ Below w.heap.size w w' := by
  have SZ := szCellsS_any A c L w hx hm hl
  have HX := hid hx
  have HW := hid hw
  clear hx hw hl
  by_cases hn : (L.length : Int) + lenL L L.length ≤ 1048576
  case neg =>
    rw [if_neg hn] at SZ
    have SZ := hid SZ
    clear hn
    go_enter Try.func13, Try.ntmps13
    go_wp2_with fail
    refine SZ.out.mono ?_
    rintro e W1 ⟨rfl, hb⟩
    go_wp2
    go_ret
    exact ⟨rfl, hb⟩
  rw [if_pos hn] at SZ
  obtain ⟨left, hleft⟩ : ∃ left, left = 1048576 - (L.length : Int) - lenL L L.length := ⟨_, rfl⟩
  rw [← hleft] at SZ
  have hleft0 : ¬ left < 0 := by omega
  have hlen0 : 0 ≤ lenL L L.length := by have := lenL_mono L (Nat.zero_le L.length); simpa [lenL] using this
  have hn2 : L.length ≤ 1048576 := by omega
  have HL : Hid (∀ e ∈ L, e.x.length ≤ 1048576) := fun e he => by have := lenL_mem (L := L) (M := 1048576) (by omega) e he; omega
  have hoff : ∀ L', L'.map Lay.plain = L.map Lay.plain → 1 + offL L' L.length ≤ 1000000000 := fun L' hp => by have := offL_plain hp L.length; omega
  have HOFF := hid hoff
  obtain ⟨p, hp⟩ : ∃ p, p = pPutLayers (L.map Lay.plain) a1 a2 := ⟨_, rfl⟩
  have CT : ∀ w', RdC w' A L → Calls Try.prog 56 #[.slice A L.length c] w' fun e w'' => ∃ g L', e = .returned (.slice (some ⟨g, 0, none⟩) L.length L.length) ∧ List.length L' = L.length ∧ L'.map Lay.plain = L.map Lay.plain ∧ OwnC w'' w'.heap.size (some ⟨g, 0, none⟩) L' ∧ Below w'.heap.size w' w'' := fun w' h => toCellsS_any A c L w' h hn2 HL.out
  have CS : ∀ w' g L', List.length L' = L.length → L'.map Lay.plain = L.map Lay.plain → RdC w' (some ⟨g, 0, none⟩) L' → Calls Try.prog 55 #[.slice (some ⟨g, 0, none⟩) L.length L.length, .int .i64 a1, .int .i64 a2] w' (RetCS w' p) := fun w' g L' h1 h2 h3 => by
    have h := sPutLayers_any (some ⟨g, 0, none⟩) L.length L' a1 a2 w' h3 (by omega) (len_copy HL.out h2) (HW.out.copy h2) w1 w2
    rw [h1, h2, ← hp] at h
    exact h
  have CI : ∀ w' g L', List.length L' = L.length → L'.map Lay.plain = L.map Lay.plain → RdC w' (some ⟨g, 0, none⟩) L' → Calls Try.prog 57 #[.slice (some ⟨g, 0, none⟩) L.length L.length, .int .i64 a1, .int .i64 a2] w' (RetCS w' p) := fun w' g L' h1 h2 h3 => by
    have h := iPutLayers_any (some ⟨g, 0, none⟩) L.length L' a1 a2 w' h3 (by omega) (len_copy HL.out h2) (HW.out.copy h2) w1 w2
    rw [h1, h2, ← hp] at h
    exact h
  have SZ := hid SZ
  have CT := hid CT
  have CS := hid CS
  have CI := hid CI
  obtain ⟨pl, pb⟩ := p
  clear hp hleft hn hlen0 hoff
  go_enter Try.func13, Try.ntmps13
  go_wp2_with fail
  refine SZ.out.mono ?_
  rintro e W1 ⟨rfl, hb⟩
  have S1 := hid hb
  clear hb
  go_wp2_with fail
  refine (CT.out _ (HX.out.below S1.out)).mono ?_
  rintro e W2 ⟨g2, L2, rfl, hl2, hp2, ho2, hb⟩
  have O2 := hid ho2
  have HP2 := hid hp2
  have HL2 := hid hl2
  have S2 := hid (S1.out.trans (hb.mono S1.out.size))
  clear hb ho2 hp2 hl2
  go_wp2_with fail
  refine (CS.out _ g2 L2 HL2.out HP2.out O2.out.rd).mono ?_
  rintro e W3 ⟨Aw, cw, Lw, rfl, hpw, how, hlw, hxw, hb⟩
  have HPW := hid hpw
  have OW := hid how
  have S3 := hid (S2.out.trans (hb.mono S2.out.size))
  clear hb how O2 HP2 HL2 hpw
  go_wp2_with fail
  refine (CT.out _ (HX.out.below S3.out)).mono ?_
  rintro e W4 ⟨g4, L4, rfl, hl4, hp4, ho4, hb⟩
  have O4 := hid ho4
  have HP4 := hid hp4
  have HL4 := hid hl4
  have T4 := hid hb
  have S4 := hid (S3.out.trans (hb.mono S3.out.size))
  clear hb ho4 hp4 hl4
  go_wp2_with fail
  refine (CI.out _ g4 L4 HL4.out HP4.out O4.out.rd).mono ?_
  rintro e W5 ⟨Ag, cg, Lg, rfl, hpg, hog, hlg, hxg, hb⟩
  have HPG := hid hpg
  have OG := hid hog
  have T5 := hid hb
  have S5 := hid (S4.out.trans (hb.mono S4.out.size))
  have F35 := hid (T4.out.trans (hb.mono T4.out.size))
  clear hb hog hpg
  have hof := offL_le hxg Lg.length
  have hof0 := offL_ge Lg Lg.length
  obtain ⟨mg, hmg⟩ : ∃ m, m = 1 + offL Lg Lg.length := ⟨_, rfl⟩
  have hmgb : 1 + offL Lg Lg.length ≤ 1000000000 := by omega
  have hmgn : ¬ mg < 0 := by omega
  have HMGB := hid hmgb
  have HMG := hid hmg
  have HXG := hid hxg
  have HXW := hid hxw
  have CEQ : Hid (∀ w' (A' : Option Addr) (c' : Nat) (L' : List Lay), L'.map Lay.plain = pl → L'.length ≤ 8 → (∀ e ∈ L', e.x.length ≤ 384) → RdC w' A' L' → RdC w' Aw Lw → Calls Try.prog 36 #[.slice A' L'.length c', .slice Aw Lw.length cw] w' fun e w'' => e = .returned (.bool true) ∧ Below w'.heap.size w' w'') := fun w' A' c' L' h1 h2 h3 h4 h5 =>
    eqCellsS_yes A' Aw c' cw L' Lw w' h4 h5 (h1.trans HPW.out.symm) (by omega) (fun e he => by have := h3 e he; omega)
  have CHD : Hid (∀ w', RdC w' Ag (markT 1 Lg Lg.length) → Calls Try.prog 38 #[.slice Ag Lg.length cg, .int .i64 1] w' fun e w'' => e = .returned (.int .i64 mg) ∧ w' = w'') := fun w' hr => by
    have h := heldCellsS_yes Ag cg Lg 1 w' hr (by omega) (fun e he => by have := HXG.out e he; omega) (by omega) HMGB.out
    rw [← HMG.out] at h
    exact h
  clear hmg hof hof0 hxg hxw hmgb
  go_wp2_with fail
  refine (CEQ.out _ Ag cg Lg HPG.out hlg HXG.out OG.out.rd (OW.out.below F35.out).rd).mono ?_
  rintro e W6 ⟨rfl, hb⟩
  have OG6 := hid (OG.out.below hb)
  have F36 := hid (F35.out.trans (hb.mono F35.out.size))
  have F46 := hid (T5.out.trans (hb.mono T5.out.size))
  have S6 := hid (S5.out.trans (hb.mono S5.out.size))
  clear hb OG
  go_wp2_with fail
  refine (CT.out _ (HX.out.below S6.out)).mono ?_
  rintro e W7 ⟨g7, L7, rfl, hl7, hp7, ho7, hb⟩
  have O7 := hid ho7
  have HP7 := hid hp7
  have HL7 := hid hl7
  have OG7 := hid (OG6.out.below hb)
  have F37 := hid (F36.out.trans (hb.mono F36.out.size))
  have F47 := hid (F46.out.trans (hb.mono F46.out.size))
  have S7 := hid (S6.out.trans (hb.mono S6.out.size))
  have CE : Hid (Calls Try.prog 36 #[.slice (some ⟨g4, 0, none⟩) L.length L.length, .slice (some ⟨g7, 0, none⟩) L.length L.length] W7 fun e w' => e = .returned (.bool true) ∧ Below W7.heap.size W7 w') := by
    have h := eqCellsS_yes (some ⟨g4, 0, none⟩) (some ⟨g7, 0, none⟩) L.length L.length L4 L7 W7 (O4.out.below F47.out).rd O7.out.rd (HP4.out.trans hp7.symm) (by have := HL4.out; omega) (len_copy HL.out HP4.out)
    rw [HL4.out, hl7] at h
    exact h
  clear hb ho7 hp7 hl7 OG6 F36 F46
  go_wp2_with fail
  refine CE.out.mono ?_
  rintro e W8 ⟨rfl, hb⟩
  have OG8 := hid (OG7.out.below hb)
  have F38 := hid (F37.out.trans (hb.mono F37.out.size))
  have F48 := hid (F47.out.trans (hb.mono F47.out.size))
  have S8 := hid (S7.out.trans (hb.mono S7.out.size))
  clear hb CE O7 HP7 HL7 OG7 F37 F47
  obtain ⟨m, hm'⟩ : ∃ m, m = 1 + offL L4 L.length := ⟨_, rfl⟩
  have hm0 : ¬ m < 0 := by have := offL_ge L4 L.length; omega
  have CM : Hid (Calls Try.prog 37 #[.slice (some ⟨g4, 0, none⟩) L.length L.length, .int .i64 1] W8 fun e w' => e = .returned (.int .i64 m) ∧ Below W3.heap.size W8 w' ∧ ∀ b, W4.heap.size ≤ b → w'.heap[b]? = W8.heap[b]?) := by
    have h := markCellsS_up (some ⟨g4, 0, none⟩) L.length W3.heap.size W4.heap.size L4 1 W8 (O4.out.below F48.out) (by have := HL4.out; omega) (len_copy HL.out HP4.out) (by omega) (by rw [HL4.out]; exact HOFF.out L4 HP4.out) F38.out.size
      O4.out.ltb O4.out.lts
    rw [HL4.out, ← hm'] at h
    exact h.mono fun _ _ ⟨h1, _, h3, h4⟩ => ⟨h1, h3, h4⟩
  clear hm' O4 HP4 HL4
  go_wp2_with fail
  refine CM.out.mono ?_
  rintro e W9 ⟨rfl, hb, hu⟩
  have F39 := hid (F38.out.trans hb)
  have OG9 := hid (OG8.out.upper (Nat.le_refl _) hu)
  have S9 := hid (S8.out.trans (hb.mono S3.out.size))
  have Z9 : W4.heap.size ≤ W9.heap.size := by have h1 := F48.out.size; exact Nat.le_trans h1 hb.size
  clear hb hu CM OG8 F38 S8 F48
  go_wp2_with fail
  refine (CEQ.out _ Ag cg Lg HPG.out hlg HXG.out OG9.out.rd (OW.out.below F39.out).rd).mono ?_
  rintro e W10 ⟨rfl, hb⟩
  have OG10 := hid (OG9.out.below hb)
  have F310 := hid (F39.out.trans (hb.mono F39.out.size))
  have S10 := hid (S9.out.trans (hb.mono S9.out.size))
  have Z10 : W4.heap.size ≤ W10.heap.size := Nat.le_trans Z9 hb.size
  clear hb OG9 F39 S9
  have CMG : Hid (Calls Try.prog 37 #[.slice Ag Lg.length cg, .int .i64 1] W10 fun e w' => e = .returned (.int .i64 mg) ∧ OwnC w' W4.heap.size Ag (markT 1 Lg Lg.length) ∧ Below W4.heap.size W10 w') := by
    have h := markCellsS_any Ag cg W4.heap.size Lg 1 W10 OG10.out (by omega) (fun e he => by have := HXG.out e he; omega) (by omega) HMGB.out Z10
    rw [← HMG.out] at h
    exact h
  go_wp2_with fail
  refine CMG.out.mono ?_
  rintro e W11 ⟨rfl, hom, hb⟩
  have M11 := hid hom
  have F311 := hid (F310.out.trans (hb.mono T4.out.size))
  have S11 := hid (S10.out.trans (hb.mono S4.out.size))
  clear hb hom OG10 F310 S10 CMG
  go_wp2_with fail
  refine (CHD.out _ M11.out.rd).mono ?_
  rintro e W' ⟨rfl, rfl⟩
  go_wp2_with fail
  refine (CT.out _ (HX.out.below S11.out)).mono ?_
  rintro e W12 ⟨g12, L12, rfl, hl12, hp12, ho12, hb⟩
  have O12 := hid ho12
  have HP12 := hid hp12
  have HL12 := hid hl12
  have M12 := hid (M11.out.below hb)
  have F312 := hid (F311.out.trans (hb.mono F311.out.size))
  have S12 := hid (S11.out.trans (hb.mono S11.out.size))
  clear hb ho12 hp12 hl12 M11 F311 S11
  go_wp2_with fail
  refine (CI.out _ g12 L12 HL12.out HP12.out O12.out.rd).mono ?_
  rintro e W13 ⟨Ah, ch, Lh, rfl, hph, hoh, hlh, hxh, hb⟩
  have OH := hid hoh
  have HPH := hid hph
  have HXH := hid hxh
  have M13 := hid (M12.out.below hb)
  have F313 := hid (F312.out.trans (hb.mono F312.out.size))
  have S13 := hid (S12.out.trans (hb.mono S12.out.size))
  clear hb hoh hph hxh O12 HP12 HL12 M12 F312 S12
  go_wp2_with fail
  refine (CEQ.out _ Ah ch Lh HPH.out hlh HXH.out OH.out.rd (OW.out.below F313.out).rd).mono ?_
  rintro e W14 ⟨rfl, hb⟩
  have M14 := hid (M13.out.below hb)
  have S14 := hid (S13.out.trans (hb.mono S13.out.size))
  clear hb M13 F313 S13
  go_wp2_with fail
  refine (CHD.out _ M14.out.rd).mono ?_
  rintro e W' ⟨rfl, rfl⟩
  go_wp2
  go_ret
  exact ⟨rfl, S14.out⟩
end Go.Proofs.Ytnngepnfljkbhaa
