/-
  The library's stable sort of integers, by contract: blocks sorted by insertion, then merged two by two.
-/
import Derived.Test.YtbodfepfapjikaaStab3
namespace Go.Proofs.Ytbodfepfapjikaa
open Go.RowKit Go.Shelf
set_option linter.unusedVariables false
set_option linter.unusedSimpArgs false

/-- What the sort leaves. -/
def RetS (g B : Nat) (ex : List Value) (w : World) (R : Int → Int → Prop) (X : List Int) (e : Ending) (w' : World) : Prop := ∃ M, e = .returned (.tuple #[]) ∧ Mg R X M ∧ Dat w' g ex M ∧ Bes g B w w'
/-- Blocks of 20 that are sorted, and what is left. -/
structure Ins20 (cf : Int → Int → Int) (R : Int → Int → Prop) (x : List Int) (D : List (List Int)) (T : List Int) : Prop where
  len : ∀ d ∈ D, d.length = 20
  blk : Blks (ltC cf) R D
  cross : Cross (ltC cf) R D.flatten T
  rest : T.Pairwise (Cr (ltC cf) R)
  perm : (D.flatten ++ T).Perm x
theorem Ins20.all {cf : Int → Int → Int} {R : Int → Int → Prop} {x : List Int} {D : List (List Int)} {T : List Int} (tr : ∀ a b c, R a b → R b c → R a c) (h : Ins20 cf R x D T) :
    Blks (ltC cf) R (D ++ [isrt (ltC cf) T]) ∧ (D.flatten ++ isrt (ltC cf) T).Perm x := by
  have hm := isrt_mg tr T h.rest
  refine ⟨⟨fun t ht => ?_, ?_⟩, (hm.1.append_left _).trans h.perm⟩
  · rcases List.mem_append.1 ht with ht | ht
    · exact h.blk.1 t ht
    · rw [List.mem_singleton] at ht; subst ht; exact hm.2
  · rw [List.pairwise_append]
    refine ⟨h.blk.2, by simp, fun d hd t ht => ?_⟩
    rw [List.mem_singleton] at ht; subst ht
    exact fun a ha b hb => h.cross a (List.mem_flatten.2 ⟨d, hd, ha⟩) b (hm.1.mem_iff.1 hb)
theorem Ins20.step {cf : Int → Int → Int} {R : Int → Int → Prop} {x : List Int} {D : List (List Int)} {t T : List Int} (tr : ∀ a b c, R a b → R b c → R a c) (h : Ins20 cf R x D (t ++ T)) (ht : t.length = 20) : Ins20 cf R x (D ++ [isrt (ltC cf) t]) T := by
  have hr := List.pairwise_append.1 h.rest
  have hm := isrt_mg tr t hr.1
  have hf : (D ++ [isrt (ltC cf) t]).flatten = D.flatten ++ isrt (ltC cf) t := by simp
  refine ⟨fun d hd => ?_, ⟨fun d hd => ?_, ?_⟩, ?_, hr.2.1, ?_⟩
  · rcases List.mem_append.1 hd with hd | hd
    · exact h.len d hd
    · rw [List.mem_singleton] at hd; subst hd; rw [isrt_length]; exact ht
  · rcases List.mem_append.1 hd with hd | hd
    · exact h.blk.1 d hd
    · rw [List.mem_singleton] at hd; subst hd; exact hm.2
  · rw [List.pairwise_append]
    refine ⟨h.blk.2, by simp, fun d hd e he => ?_⟩
    rw [List.mem_singleton] at he; subst he
    exact fun a ha b hb => h.cross a (List.mem_flatten.2 ⟨d, hd, ha⟩) b (List.mem_append_left _ (hm.1.mem_iff.1 hb))
  · rw [hf]
    intro a ha b hb
    rcases List.mem_append.1 ha with ha | ha
    · exact h.cross a ha b (List.mem_append_right _ hb)
    · exact hr.2.2 a (hm.1.mem_iff.1 ha) b hb
  · rw [hf]
    refine List.Perm.trans ?_ h.perm
    rw [List.append_assoc]
    exact (hm.1.append_right T).append_left D.flatten
/-- Blocks, some of them merged already. -/
structure Mrg (cf : Int → Int → Int) (R : Int → Int → Prop) (x : List Int) (bs : Nat) (D T : List (List Int)) : Prop where
  len : ∀ d ∈ D, d.length = 2 * bs
  chunk : Chunk bs T
  blk : Blks (ltC cf) R (D ++ T)
  perm : (D ++ T).flatten.Perm x
theorem Mrg.step {cf : Int → Int → Int} {R : Int → Int → Prop} {x : List Int} {bs : Nat} {D T : List (List Int)} {t1 t2 M : List Int} (h : Mrg cf R x bs D (t1 :: t2 :: T)) (hc : Chunk bs T) (h1 : t1.length = bs) (h2 : t2.length = bs) (hm : Mg R (t1 ++ t2) M) : Mrg cf R x bs (D ++ [M]) T := by
  refine ⟨fun d hd => ?_, hc, ?_, ?_⟩
  · rcases List.mem_append.1 hd with hd | hd
    · exact h.len d hd
    · rw [List.mem_singleton] at hd; subst hd; rw [hm.1.length_eq, List.length_append]; omega
  · have h3 := h.blk.merge hm
    rw [List.append_assoc]; exact h3
  · refine List.Perm.trans ?_ h.perm
    simp only [List.flatten_append, List.flatten_cons, List.flatten_nil, List.append_nil, List.append_assoc]
    refine List.Perm.append_left _ ?_
    rw [← List.append_assoc]
    exact hm.1.append_right _
set_option maxRecDepth 100000 in
set_option maxHeartbeats 6400000 in
theorem stable_any (g B c N f : Nat) (cb : Array Value) (ex : List Value) (x : List Int) (cf : Int → Int → Int) (R : Int → Int → Prop) (E : Int → Prop) (w0 w : World) (tr : Hid (∀ a b c, R a b → R b c → R a c)) (hc : CmpOk f cb g B w0 E cf) (hN2 : N ≤ 1048576)
    (hw : Bes g B w0 w) (hE : ∀ y ∈ x, E y) (hx : Hid (x.length = N)) (hX : Hid (x.Pairwise (Cr (ltC cf) R))) (hD : Dat w g ex x) :
    Calls Try.prog 131 #[.slice (some ⟨g, 0, none⟩) N c, .int .i64 N, .func (.func f) #[] cb] w (RetS g B ex w R x) := by
  have HC := hid hc
  have W0 := hid hw
  have HE := hid hE
  have I0 : Hid (Ins20 cf R x [] x) := ⟨by simp, ⟨by simp, by simp⟩, fun a ha => by simp at ha, hX.out, by simp⟩
  have D0 : Hid (Dat w g ex (([] : List (List Int)).flatten ++ x)) := hD
  have CI := fun (a b : Nat) (A X C : List Int) (w' : World) (hW : Hid (Bes g B w w')) (hp : ∀ y ∈ X, E y) (h1 : Hid (A.length = a)) (h2 : Hid (a + X.length = b)) (h3 : b ≤ N) (h4 : Dat w' g ex (A ++ (X ++ C))) => insertion_any g B c N a b f cb ex A X C cf E w0 w' hc (hw.trans hW.out) hp h1 h2 h3 hN2 h4
  have CIH := hid CI
  have CS := fun (a m b : Nat) (A L M C : List Int) (w' : World) (hW : Hid (Bes g B w w')) => symMerge_any g B c N f cb ex cf R E w0 tr hc hN2 (L.length + M.length) a m b A L M C w' (Nat.le_refl _) (hw.trans hW.out)
  have CSH := hid CS
  clear hc hw hE hD CI CS
  go_enter Try.func131, Try.ntmps131
  go_wp2
  go_loopw [7, 8] (fun ta tb wr => ∃ (a b : Nat) (D : List (List Int)) (T : List Int), ta = .int .i64 a ∧ tb = .int .i64 b ∧ b = a + 20 ∧ Hid (D.flatten.length = a) ∧ Hid (a + T.length = N) ∧ Hid (Ins20 cf R x D T) ∧ Hid (Dat wr g ex (D.flatten ++ T)) ∧ Hid (Bes g B w wr)) (fun ta _ _ => N - (intOf ta).toNat)
  case atStart => exact ⟨0, 20, [], x, rfl, rfl, rfl, rfl, by show _ = _; have := hx.out; omega, I0, D0, Bes.refl _ _ _⟩
  case round =>
    obtain ⟨a, b, D, T, rfl, rfl, hab, hDa, hTa, hI, hD, hW⟩ := hrel
    have hEx : Hid (∀ y ∈ T, E y) := fun y hy => HE.out y (hI.out.perm.mem_iff.1 (List.mem_append_right _ hy))
    have hTl := hTa.out
    by_cases hle : b ≤ N
    · have hlei : (b : Int) ≤ (N : Int) := by omega
      obtain ⟨t, ht⟩ : ∃ t, t = T.take 20 := ⟨_, rfl⟩
      obtain ⟨T', hT'⟩ : ∃ t, t = T.drop 20 := ⟨_, rfl⟩
      have hT : T = t ++ T' := by rw [ht, hT', List.take_append_drop]
      have htl : t.length = 20 := by rw [ht, List.length_take]; omega
      have hTl' : T'.length = T.length - 20 := by rw [hT', List.length_drop]
      have C1 := hid (CIH.out a b D.flatten t T' wr hW (fun y hy => hEx.out y (by rw [hT]; exact List.mem_append_left _ hy)) hDa (by show _ = _; omega) hle (by have h := hD.out; rw [hT] at h; exact h))
      have hI2 : Hid (Ins20 cf R x (D ++ [isrt (ltC cf) t]) T') := (hT ▸ hI.out).step tr.out htl
      have hDa2 : Hid ((D ++ [isrt (ltC cf) t]).flatten.length = b) := by show _ = _; simp only [List.flatten_append, List.flatten_cons, List.flatten_nil, List.append_nil, List.length_append, isrt_length]; have := hDa.out; omega
      have hTa2 : Hid (b + T'.length = N) := by show _ = _; omega
      have e1 : IntKind.i64.wrap ((b : Int) + 20) = ((b + 20 : Nat) : Int) := by rw [IntKind.wrap_i64]; omega
      have hab' : a < b := by omega
      clear ht hT' hT htl hTl' hTl hab hI hD hTa hDa hEx
      go_wp2_with fail
      refine C1.out.mono ?_
      rintro e w1 ⟨rfl, hD1, hW1⟩
      have D1 : Hid (Dat w1 g ex ((D ++ [isrt (ltC cf) t]).flatten ++ T')) := by show Dat _ _ _ _; simpa only [List.flatten_append, List.flatten_cons, List.flatten_nil, List.append_nil, List.append_assoc] using hD1
      have W1 := hid (hW.out.trans hW1)
      clear hD1 hW1 C1
      go_wp2
      exact ⟨⟨b, b + 20, D ++ [isrt (ltC cf) t], T', rfl, rfl, rfl, hDa2, hTa2, hI2, D1, W1⟩, by simp [intOf]; omega⟩
    · have hlei : ¬ (b : Int) ≤ (N : Int) := by omega
      have C1 := hid (CIH.out a N D.flatten T [] wr hW (fun y hy => hEx.out y hy) hDa hTa (Nat.le_refl _) (by have h := hD.out; rw [List.append_nil]; exact h))
      have hT20 : T.length < 20 := by omega
      obtain ⟨Q, hQ⟩ : ∃ Q : List (List Int), (Chunk 20 Q ∧ Blks (ltC cf) R Q ∧ Q.flatten.Perm x) ∧ Q.flatten = D.flatten ++ isrt (ltC cf) T := by
        obtain ⟨h1, h2⟩ := hI.out.all tr.out
        by_cases hT0 : T = []
        · subst hT0
          refine ⟨D, ⟨Chunk.all (by decide) hI.out.len, hI.out.blk, ?_⟩, ?_⟩
          · have h3 := hI.out.perm; rwa [List.append_nil] at h3
          · simp [isrt]
        · refine ⟨D ++ [isrt (ltC cf) T], ⟨Chunk.snoc hI.out.len (by rw [isrt_length]; exact List.length_pos_iff.2 hT0) (by rw [isrt_length]; omega), h1, ?_⟩, by simp⟩
          simpa using h2
      obtain ⟨hQ1, hQ2⟩ := hQ
      have HQ := hid hQ1
      have HQF := hid hQ2
      clear hQ1 hQ2 hTl hab hI hD hTa hDa hEx
      go_wp2_with fail
      refine C1.out.mono ?_
      rintro e w1 ⟨rfl, hD1, hW1⟩
      have D1 : Hid (Dat w1 g ex Q.flatten) := by show Dat _ _ _ _; rw [HQF.out]; rw [List.append_nil] at hD1; exact hD1
      have W1 := hid (hW.out.trans hW1)
      clear hD1 hW1 C1 hW HQF
      go_wp2
      go_loopw [6] (fun ts wr => ∃ (bs : Nat) (Q : List (List Int)), ts = .int .i64 bs ∧ 20 ≤ bs ∧ bs ≤ 4194304 ∧ Hid (Chunk bs Q ∧ Blks (ltC cf) R Q ∧ Q.flatten.Perm x) ∧ Hid (Dat wr g ex Q.flatten) ∧ Hid (Bes g B w wr)) (fun ts _ => N - (intOf ts).toNat)
      case atStart => exact ⟨20, Q, rfl, by decide, by decide, HQ, D1, W1⟩
      case round =>
        clear HQ D1 W1 Q
        obtain ⟨bs, Q, rfl, hb1, hb2, hQ, hD, hW⟩ := hrel
        by_cases hlt : bs < N
        · have hlti : (bs : Int) < (N : Int) := by omega
          have M0 : Hid (Mrg cf R x bs [] Q) := ⟨by simp, hQ.out.1, hQ.out.2.1, hQ.out.2.2⟩
          have D1 : Hid (Dat wr g ex (([] : List (List Int)) ++ Q).flatten) := hD.out
          clear hQ hD
          go_wp2
          go_loopw [7, 8] (fun ta tb wr => ∃ (a b : Nat) (D T : List (List Int)), ta = .int .i64 a ∧ tb = .int .i64 b ∧ b = a + 2 * bs ∧ Hid (D.flatten.length = a) ∧ Hid (a + T.flatten.length = N) ∧ Hid (Mrg cf R x bs D T) ∧ Hid (Dat wr g ex (D ++ T).flatten) ∧ Hid (Bes g B w wr)) (fun ta _ _ => N - (intOf ta).toNat)
          case atStart => exact ⟨0, 2 * bs, [], Q, rfl, by go_num, by omega, rfl, by show _ = _; have h1 := M0.out.perm.length_eq; have := hx.out; simp only [List.nil_append] at h1; omega, M0, D1, hW⟩
          case round =>
            clear M0 D1 Q hW
            obtain ⟨a, b, D, T, rfl, rfl, hab, hDa, hTa, hM, hD, hW⟩ := hrel
            have hTl := hTa.out
            have hEx : Hid (∀ y ∈ (D ++ T).flatten, E y) := fun y hy => HE.out y (hM.out.perm.mem_iff.1 hy)
            by_cases hle : b ≤ N
            · have hlei : (b : Int) ≤ (N : Int) := by omega
              obtain ⟨t1, t2, T', rfl, h1, h2, h3⟩ := hM.out.chunk.two (by omega) (by omega)
              obtain ⟨s1, s2, s3⟩ := hM.out.blk.two
              obtain ⟨md, hmd⟩ : ∃ md, md = a + bs := ⟨_, rfl⟩
              have C1 := hid (CSH.out a md b D.flatten t1 t2 T'.flatten wr hW (fun y hy => hEx.out y (by simp only [List.flatten_append, List.flatten_cons, List.mem_append] at hy ⊢; rcases hy with h | h <;> simp [h])) hDa (by show _ = _; omega) (by show _ = _; omega) hle (by omega) (by omega) s1 s2 s3 (by have h := hD.out; simpa only [List.flatten_append, List.flatten_cons, List.append_assoc] using h))
              have hst : Hid (∀ M, Mg R (t1 ++ t2) M → Mrg cf R x bs (D ++ [M]) T') := fun M hm => hM.out.step h3 h1 h2 hm
              have hlen : Hid (∀ M, Mg R (t1 ++ t2) M → (D ++ [M]).flatten.length = b) := fun M hm => by
                simp only [List.flatten_append, List.flatten_cons, List.flatten_nil, List.append_nil, List.length_append, hm.1.length_eq]; have := hDa.out; omega
              have hTa2 : Hid (b + T'.flatten.length = N) := by show _ = _; simp only [List.flatten_cons, List.length_append] at hTl; omega
              have e1 : IntKind.i64.wrap ((a : Int) + (bs : Int)) = (md : Int) := by rw [IntKind.wrap_i64]; omega
              have e3 : IntKind.i64.wrap ((b : Int) + 2 * (bs : Int)) = ((b + 2 * bs : Nat) : Int) := by rw [IntKind.wrap_i64]; omega
              have hab' : a < b := by omega
              clear h1 h2 h3 s1 s2 s3 hmd hTl hab hM hD hTa hDa hEx
              go_wp2_with fail
              refine C1.out.mono ?_
              rintro e w1 ⟨M, rfl, hm, hD1, hW1⟩
              have D1 : Hid (Dat w1 g ex ((D ++ [M]) ++ T').flatten) := by show Dat _ _ _ _; simpa only [List.flatten_append, List.flatten_cons, List.flatten_nil, List.append_nil, List.append_assoc] using hD1
              have W1 := hid (hW.out.trans hW1)
              have M1 := hid (hst.out M hm)
              have L1 := hid (hlen.out M hm)
              clear hD1 hW1 C1 hst hlen hm
              go_wp2
              exact ⟨⟨b, b + 2 * bs, D ++ [M], T', rfl, rfl, rfl, L1, hTa2, M1, D1, W1⟩, by simp [intOf]; omega⟩
            · have hlei : ¬ (b : Int) ≤ (N : Int) := by omega
              obtain ⟨md, hmd⟩ : ∃ md, md = a + bs := ⟨_, rfl⟩
              have e1 : IntKind.i64.wrap ((a : Int) + (bs : Int)) = (md : Int) := by rw [IntKind.wrap_i64]; omega
              have e3 : IntKind.i64.wrap ((bs : Int) * 2) = ((bs * 2 : Nat) : Int) := by rw [IntKind.wrap_i64]; omega
              have hleft := hM.out.chunk.left (by omega)
              by_cases hmn : md < N
              · have hmni : (md : Int) < (N : Int) := by omega
                obtain ⟨t1, t2, rfl, h1, h2, h3⟩ : ∃ t1 t2, T = [t1, t2] ∧ t1.length = bs ∧ 0 < t2.length ∧ t2.length < bs := by
                  rcases hleft with h | ⟨t, h, h4, h5⟩ | h
                  · subst h; simp at hTl; omega
                  · subst h; simp at hTl; omega
                  · exact h
                obtain ⟨s1, s2, s3⟩ := hM.out.blk.two (T := [])
                have hTl2 : a + (t1.length + t2.length) = N := by simpa using hTl
                have C1 := hid (CSH.out a md N D.flatten t1 t2 [] wr hW (fun y hy => hEx.out y (by simp only [List.flatten_append, List.flatten_cons, List.mem_append] at hy ⊢; rcases hy with h | h <;> simp [h])) hDa (by show _ = _; omega) (by show _ = _; omega) (Nat.le_refl _) (by omega) h2 s1 s2 s3 (by have h := hD.out; simpa only [List.flatten_append, List.flatten_cons, List.flatten_nil, List.append_assoc] using h))
                have hst : Hid (∀ M, Mg R (t1 ++ t2) M → Chunk (bs * 2) (D ++ [M]) ∧ Blks (ltC cf) R (D ++ [M]) ∧ (D ++ [M]).flatten.Perm x) := fun M hm => by
                  refine ⟨Chunk.snoc (fun d hd => by have := hM.out.len d hd; omega) (by rw [hm.1.length_eq, List.length_append]; omega) (by rw [hm.1.length_eq, List.length_append]; omega), hM.out.blk.merge hm, ?_⟩
                  refine List.Perm.trans ?_ hM.out.perm
                  simp only [List.flatten_append, List.flatten_cons, List.flatten_nil, List.append_nil]
                  exact hm.1.append_left _
                clear h1 h2 h3 s1 s2 s3 hmd hTl hTl2 hab hM hD hTa hDa hEx hleft
                go_wp2_with fail
                refine C1.out.mono ?_
                rintro e w1 ⟨M, rfl, hm, hD1, hW1⟩
                have D1 : Hid (Dat w1 g ex (D ++ [M]).flatten) := by show Dat _ _ _ _; simpa only [List.flatten_append, List.flatten_cons, List.flatten_nil, List.append_nil] using hD1
                have W1 := hid (hW.out.trans hW1)
                have M1 := hid (hst.out M hm)
                clear hD1 hW1 C1 hst hm
                go_wp2
                exact ⟨⟨bs * 2, D ++ [M], rfl, by omega, by omega, M1, D1, W1⟩, by simp [intOf]; omega⟩
              · have hmni : ¬ (md : Int) < (N : Int) := by omega
                have M1 : Hid (Chunk (bs * 2) (D ++ T) ∧ Blks (ltC cf) R (D ++ T) ∧ (D ++ T).flatten.Perm x) := by
                  refine ⟨?_, hM.out.blk, hM.out.perm⟩
                  have hlen : ∀ d ∈ D, d.length = bs * 2 := fun d hd => by have := hM.out.len d hd; omega
                  rcases hleft with h | ⟨t, h, h4, h5⟩ | ⟨t1, t2, h, h4, h5, h6⟩
                  · subst h; rw [List.append_nil]; exact Chunk.all (by omega) hlen
                  · subst h; exact Chunk.snoc hlen h4 (by omega)
                  · subst h; simp at hTl; omega
                clear hmd hTl hab hM hTa hDa hEx hleft
                go_wp2
                exact ⟨⟨bs * 2, D ++ T, rfl, by omega, by omega, M1, hD, hW⟩, by simp [intOf]; omega⟩
        · have hlti : ¬ (bs : Int) < (N : Int) := by omega
          have hfin : Hid (Mg R x Q.flatten) := by
            obtain ⟨h1, h2, h3⟩ := hQ.out
            refine ⟨h3, ?_⟩
            have h4 := h3.length_eq
            have h5 := hx.out
            rcases h1.one (by omega) (by omega) with h | ⟨t, h⟩
            · subst h; simp
            · subst h
              have h6 := h2.1 t (by simp)
              simpa using h6
          clear hQ
          go_wp2
          go_end0
          exact ⟨_, rfl, hfin.out, hD.out, hW.out⟩
set_option maxRecDepth 100000 in
set_option maxHeartbeats 1600000 in
theorem sortStable_any (g B c N f : Nat) (cb : Array Value) (ex : List Value) (x : List Int) (cf : Int → Int → Int) (R : Int → Int → Prop) (E : Int → Prop) (w0 w : World) (tr : Hid (∀ a b c, R a b → R b c → R a c)) (hc : CmpOk f cb g B w0 E cf) (hN2 : N ≤ 1048576)
    (hw : Bes g B w0 w) (hE : ∀ y ∈ x, E y) (hx : Hid (x.length = N)) (hX : Hid (x.Pairwise (Cr (ltC cf) R))) (hD : Dat w g ex x) :
    Calls Try.prog 93 #[.slice (some ⟨g, 0, none⟩) N c, .func (.func f) #[] cb] w (RetS g B ex w R x) := by
  have C1 := hid (stable_any g B c N f cb ex x cf R E w0 w tr hc hN2 hw hE hx hX hD)
  clear hc hw hE hD
  go_enter Try.func93, Try.ntmps93
  go_wp2_with fail
  refine C1.out.mono ?_
  rintro e w1 ⟨M, rfl, hm, hD1, hW1⟩
  have H1 := hid hm
  have H2 := hid hD1
  have H3 := hid hW1
  clear hm hD1 hW1
  go_wp2
  go_end0
  exact ⟨M, rfl, H1.out, H2.out, H3.out⟩
end Go.Proofs.Ytbodfepfapjikaa
