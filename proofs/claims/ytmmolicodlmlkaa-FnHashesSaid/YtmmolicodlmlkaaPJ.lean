/-
  Parts of the proof: The library's stable sort of integers, by contract: blocks sorted by insertion, then merged two by two. The places of keys in ascending order of their hashes: reference and program, by contracts. The places of keys in ascending order of their hashes: the program, by contract, over the library's stable sort. LikeShare: reference and program, by contracts. Printed by gen_like.py. How many keys fall on each place: reference and program, by contracts. Printed by gen_spread.py. MeetingsOf: how many keys meet one before them; a map of those that were seen. By contracts. Homes and places that are swa No condition.
-/
import Derived.Test.YtmmolicodlmlkaaPI
import Derived.Test.YtmmolicodlmlkaaPG
import Derived.Test.YtmmolicodlmlkaaPH
import Derived.Maps.OwnOps
import Derived.Deep.QuietTactic
import Derived.BigQuiet
set_option linter.unusedVariables false
set_option linter.unusedSimpArgs false
namespace Go.Proofs.Ytmmolicodlmlkaa
open Go.RowKit Go.Shelf
set_option linter.unusedVariables false
set_option linter.unusedSimpArgs false

/-- What the sort leaves. -/
def RetS (g B : Nat) (ex : List Value) (w : World) (R : Int → Int → Prop) (X : List Int) (e : Ending) (w' : World) : Prop := ∃ M, e = .returned (.tuple #[]) ∧ Mg R X M ∧ Dat w' g ex M ∧ Bes g B w w'
/-- Blocks of 20 that are sorted, and what is left. -/
structure Ins20 (cf : Int → Int → Int) (R : Int → Int → Prop) (x : List Int) (D : List (List Int)) (T : List Int) : Prop where
  len : ∀ d ∈ D, d.length = 20
  blk : Blks (ltC cf) R D
  cross : Cross (ltC cf) R D.flatten T
  rest : T.Pairwise (Cr (ltC cf) R)
  perm : (D.flatten ++ T).Perm x
theorem Ins20.all {cf : Int → Int → Int} {R : Int → Int → Prop} {x : List Int} {D : List (List Int)} {T : List Int} (tr : ∀ a b c, R a b → R b c → R a c) (h : Ins20 cf R x D T) :
    Blks (ltC cf) R (D ++ [isrt (ltC cf) T]) ∧ (D.flatten ++ isrt (ltC cf) T).Perm x := by
  have hm := isrt_mg tr T h.rest
  refine ⟨⟨fun t ht => ?_, ?_⟩, (hm.1.append_left _).trans h.perm⟩
  · rcases List.mem_append.1 ht with ht | ht
    · exact h.blk.1 t ht
    · rw [List.mem_singleton] at ht; subst ht; exact hm.2
  · rw [List.pairwise_append]
    refine ⟨h.blk.2, by simp, fun d hd t ht => ?_⟩
    rw [List.mem_singleton] at ht; subst ht
    exact fun a ha b hb => h.cross a (List.mem_flatten.2 ⟨d, hd, ha⟩) b (hm.1.mem_iff.1 hb)
theorem Ins20.step {cf : Int → Int → Int} {R : Int → Int → Prop} {x : List Int} {D : List (List Int)} {t T : List Int} (tr : ∀ a b c, R a b → R b c → R a c) (h : Ins20 cf R x D (t ++ T)) (ht : t.length = 20) : Ins20 cf R x (D ++ [isrt (ltC cf) t]) T := by
  have hr := List.pairwise_append.1 h.rest
  have hm := isrt_mg tr t hr.1
  have hf : (D ++ [isrt (ltC cf) t]).flatten = D.flatten ++ isrt (ltC cf) t := by simp
  refine ⟨fun d hd => ?_, ⟨fun d hd => ?_, ?_⟩, ?_, hr.2.1, ?_⟩
  · rcases List.mem_append.1 hd with hd | hd
    · exact h.len d hd
    · rw [List.mem_singleton] at hd; subst hd; rw [isrt_length]; exact ht
  · rcases List.mem_append.1 hd with hd | hd
    · exact h.blk.1 d hd
    · rw [List.mem_singleton] at hd; subst hd; exact hm.2
  · rw [List.pairwise_append]
    refine ⟨h.blk.2, by simp, fun d hd e he => ?_⟩
    rw [List.mem_singleton] at he; subst he
    exact fun a ha b hb => h.cross a (List.mem_flatten.2 ⟨d, hd, ha⟩) b (List.mem_append_left _ (hm.1.mem_iff.1 hb))
  · rw [hf]
    intro a ha b hb
    rcases List.mem_append.1 ha with ha | ha
    · exact h.cross a ha b (List.mem_append_right _ hb)
    · exact hr.2.2 a (hm.1.mem_iff.1 ha) b hb
  · rw [hf]
    refine List.Perm.trans ?_ h.perm
    rw [List.append_assoc]
    exact (hm.1.append_right T).append_left D.flatten
/-- Blocks, some of them merged already. -/
structure Mrg (cf : Int → Int → Int) (R : Int → Int → Prop) (x : List Int) (bs : Nat) (D T : List (List Int)) : Prop where
  len : ∀ d ∈ D, d.length = 2 * bs
  chunk : Chunk bs T
  blk : Blks (ltC cf) R (D ++ T)
  perm : (D ++ T).flatten.Perm x
theorem Mrg.step {cf : Int → Int → Int} {R : Int → Int → Prop} {x : List Int} {bs : Nat} {D T : List (List Int)} {t1 t2 M : List Int} (h : Mrg cf R x bs D (t1 :: t2 :: T)) (hc : Chunk bs T) (h1 : t1.length = bs) (h2 : t2.length = bs) (hm : Mg R (t1 ++ t2) M) : Mrg cf R x bs (D ++ [M]) T := by
  refine ⟨fun d hd => ?_, hc, ?_, ?_⟩
  · rcases List.mem_append.1 hd with hd | hd
    · exact h.len d hd
    · rw [List.mem_singleton] at hd; subst hd; rw [hm.1.length_eq, List.length_append]; omega
  · have h3 := h.blk.merge hm
    rw [List.append_assoc]; exact h3
  · refine List.Perm.trans ?_ h.perm
    simp only [List.flatten_append, List.flatten_cons, List.flatten_nil, List.append_nil, List.append_assoc]
    refine List.Perm.append_left _ ?_
    rw [← List.append_assoc]
    exact hm.1.append_right _
set_option maxRecDepth 100000 in
set_option maxHeartbeats 6400000 in
theorem stable_any (g B c N f : Nat) (cb : Array Value) (ex : List Value) (x : List Int) (cf : Int → Int → Int) (R : Int → Int → Prop) (E : Int → Prop) (w0 w : World) (tr : Hid (∀ a b c, R a b → R b c → R a c)) (hc : CmpOk f cb g B w0 E cf) (hN2 : N ≤ 1048576)
    (hw : Bes g B w0 w) (hE : ∀ y ∈ x, E y) (hx : Hid (x.length = N)) (hX : Hid (x.Pairwise (Cr (ltC cf) R))) (hD : Dat w g ex x) :
    Calls Try.prog 121 #[.slice (some ⟨g, 0, none⟩) N c, .int .i64 N, .func (.func f) #[] cb] w (RetS g B ex w R x) := by
  have HC := hid hc
  have W0 := hid hw
  have HE := hid hE
  have I0 : Hid (Ins20 cf R x [] x) := ⟨by simp, ⟨by simp, by simp⟩, fun a ha => by simp at ha, hX.out, by simp⟩
  have D0 : Hid (Dat w g ex (([] : List (List Int)).flatten ++ x)) := hD
  have CI := fun (a b : Nat) (A X C : List Int) (w' : World) (hW : Hid (Bes g B w w')) (hp : ∀ y ∈ X, E y) (h1 : Hid (A.length = a)) (h2 : Hid (a + X.length = b)) (h3 : b ≤ N) (h4 : Dat w' g ex (A ++ (X ++ C))) => insertion_any g B c N a b f cb ex A X C cf E w0 w' hc (hw.trans hW.out) hp h1 h2 h3 hN2 h4
  have CIH := hid CI
  have CS := fun (a m b : Nat) (A L M C : List Int) (w' : World) (hW : Hid (Bes g B w w')) => symMerge_any g B c N f cb ex cf R E w0 tr hc hN2 (L.length + M.length) a m b A L M C w' (Nat.le_refl _) (hw.trans hW.out)
  have CSH := hid CS
  clear hc hw hE hD CI CS
  go_enter Try.func121, Try.ntmps121
  go_wp2
  go_loopw [7, 8] (fun ta tb wr => ∃ (a b : Nat) (D : List (List Int)) (T : List Int), ta = .int .i64 a ∧ tb = .int .i64 b ∧ b = a + 20 ∧ Hid (D.flatten.length = a) ∧ Hid (a + T.length = N) ∧ Hid (Ins20 cf R x D T) ∧ Hid (Dat wr g ex (D.flatten ++ T)) ∧ Hid (Bes g B w wr)) (fun ta _ _ => N - (intOf ta).toNat)
  case atStart => exact ⟨0, 20, [], x, rfl, rfl, rfl, rfl, by show _ = _; have := hx.out; omega, I0, D0, Bes.refl _ _ _⟩
  case round =>
    obtain ⟨a, b, D, T, rfl, rfl, hab, hDa, hTa, hI, hD, hW⟩ := hrel
    have hEx : Hid (∀ y ∈ T, E y) := fun y hy => HE.out y (hI.out.perm.mem_iff.1 (List.mem_append_right _ hy))
    have hTl := hTa.out
    by_cases hle : b ≤ N
    · have hlei : (b : Int) ≤ (N : Int) := by omega
      obtain ⟨t, ht⟩ : ∃ t, t = T.take 20 := ⟨_, rfl⟩
      obtain ⟨T', hT'⟩ : ∃ t, t = T.drop 20 := ⟨_, rfl⟩
      have hT : T = t ++ T' := by rw [ht, hT', List.take_append_drop]
      have htl : t.length = 20 := by rw [ht, List.length_take]; omega
      have hTl' : T'.length = T.length - 20 := by rw [hT', List.length_drop]
      have C1 := hid (CIH.out a b D.flatten t T' wr hW (fun y hy => hEx.out y (by rw [hT]; exact List.mem_append_left _ hy)) hDa (by show _ = _; omega) hle (by have h := hD.out; rw [hT] at h; exact h))
      have hI2 : Hid (Ins20 cf R x (D ++ [isrt (ltC cf) t]) T') := (hT ▸ hI.out).step tr.out htl
      have hDa2 : Hid ((D ++ [isrt (ltC cf) t]).flatten.length = b) := by show _ = _; simp only [List.flatten_append, List.flatten_cons, List.flatten_nil, List.append_nil, List.length_append, isrt_length]; have := hDa.out; omega
      have hTa2 : Hid (b + T'.length = N) := by show _ = _; omega
      have e1 : IntKind.i64.wrap ((b : Int) + 20) = ((b + 20 : Nat) : Int) := by rw [IntKind.wrap_i64]; omega
      have hab' : a < b := by omega
      clear ht hT' hT htl hTl' hTl hab hI hD hTa hDa hEx
      go_wp2_with fail
      refine C1.out.mono ?_
      rintro e w1 ⟨rfl, hD1, hW1⟩
      have D1 : Hid (Dat w1 g ex ((D ++ [isrt (ltC cf) t]).flatten ++ T')) := by show Dat _ _ _ _; simpa only [List.flatten_append, List.flatten_cons, List.flatten_nil, List.append_nil, List.append_assoc] using hD1
      have W1 := hid (hW.out.trans hW1)
      clear hD1 hW1 C1
      go_wp2
      exact ⟨⟨b, b + 20, D ++ [isrt (ltC cf) t], T', rfl, rfl, rfl, hDa2, hTa2, hI2, D1, W1⟩, by simp [intOf]; omega⟩
    · have hlei : ¬ (b : Int) ≤ (N : Int) := by omega
      have C1 := hid (CIH.out a N D.flatten T [] wr hW (fun y hy => hEx.out y hy) hDa hTa (Nat.le_refl _) (by have h := hD.out; rw [List.append_nil]; exact h))
      have hT20 : T.length < 20 := by omega
      obtain ⟨Q, hQ⟩ : ∃ Q : List (List Int), (Chunk 20 Q ∧ Blks (ltC cf) R Q ∧ Q.flatten.Perm x) ∧ Q.flatten = D.flatten ++ isrt (ltC cf) T := by
        obtain ⟨h1, h2⟩ := hI.out.all tr.out
        by_cases hT0 : T = []
        · subst hT0
          refine ⟨D, ⟨Chunk.all (by decide) hI.out.len, hI.out.blk, ?_⟩, ?_⟩
          · have h3 := hI.out.perm; rwa [List.append_nil] at h3
          · simp [isrt]
        · refine ⟨D ++ [isrt (ltC cf) T], ⟨Chunk.snoc hI.out.len (by rw [isrt_length]; exact List.length_pos_iff.2 hT0) (by rw [isrt_length]; omega), h1, ?_⟩, by simp⟩
          simpa using h2
      obtain ⟨hQ1, hQ2⟩ := hQ
      have HQ := hid hQ1
      have HQF := hid hQ2
      clear hQ1 hQ2 hTl hab hI hD hTa hDa hEx
      go_wp2_with fail
      refine C1.out.mono ?_
      rintro e w1 ⟨rfl, hD1, hW1⟩
      have D1 : Hid (Dat w1 g ex Q.flatten) := by show Dat _ _ _ _; rw [HQF.out]; rw [List.append_nil] at hD1; exact hD1
      have W1 := hid (hW.out.trans hW1)
      clear hD1 hW1 C1 hW HQF
      go_wp2
      go_loopw [6] (fun ts wr => ∃ (bs : Nat) (Q : List (List Int)), ts = .int .i64 bs ∧ 20 ≤ bs ∧ bs ≤ 4194304 ∧ Hid (Chunk bs Q ∧ Blks (ltC cf) R Q ∧ Q.flatten.Perm x) ∧ Hid (Dat wr g ex Q.flatten) ∧ Hid (Bes g B w wr)) (fun ts _ => N - (intOf ts).toNat)
      case atStart => exact ⟨20, Q, rfl, by decide, by decide, HQ, D1, W1⟩
      case round =>
        clear HQ D1 W1 Q
        obtain ⟨bs, Q, rfl, hb1, hb2, hQ, hD, hW⟩ := hrel
        by_cases hlt : bs < N
        · have hlti : (bs : Int) < (N : Int) := by omega
          have M0 : Hid (Mrg cf R x bs [] Q) := ⟨by simp, hQ.out.1, hQ.out.2.1, hQ.out.2.2⟩
          have D1 : Hid (Dat wr g ex (([] : List (List Int)) ++ Q).flatten) := hD.out
          clear hQ hD
          go_wp2
          go_loopw [7, 8] (fun ta tb wr => ∃ (a b : Nat) (D T : List (List Int)), ta = .int .i64 a ∧ tb = .int .i64 b ∧ b = a + 2 * bs ∧ Hid (D.flatten.length = a) ∧ Hid (a + T.flatten.length = N) ∧ Hid (Mrg cf R x bs D T) ∧ Hid (Dat wr g ex (D ++ T).flatten) ∧ Hid (Bes g B w wr)) (fun ta _ _ => N - (intOf ta).toNat)
          case atStart => exact ⟨0, 2 * bs, [], Q, rfl, by go_num, by omega, rfl, by show _ = _; have h1 := M0.out.perm.length_eq; have := hx.out; simp only [List.nil_append] at h1; omega, M0, D1, hW⟩
          case round =>
            clear M0 D1 Q hW
            obtain ⟨a, b, D, T, rfl, rfl, hab, hDa, hTa, hM, hD, hW⟩ := hrel
            have hTl := hTa.out
            have hEx : Hid (∀ y ∈ (D ++ T).flatten, E y) := fun y hy => HE.out y (hM.out.perm.mem_iff.1 hy)
            by_cases hle : b ≤ N
            · have hlei : (b : Int) ≤ (N : Int) := by omega
              obtain ⟨t1, t2, T', rfl, h1, h2, h3⟩ := hM.out.chunk.two (by omega) (by omega)
              obtain ⟨s1, s2, s3⟩ := hM.out.blk.two
              obtain ⟨md, hmd⟩ : ∃ md, md = a + bs := ⟨_, rfl⟩
              have C1 := hid (CSH.out a md b D.flatten t1 t2 T'.flatten wr hW (fun y hy => hEx.out y (by simp only [List.flatten_append, List.flatten_cons, List.mem_append] at hy ⊢; rcases hy with h | h <;> simp [h])) hDa (by show _ = _; omega) (by show _ = _; omega) hle (by omega) (by omega) s1 s2 s3 (by have h := hD.out; simpa only [List.flatten_append, List.flatten_cons, List.append_assoc] using h))
              have hst : Hid (∀ M, Mg R (t1 ++ t2) M → Mrg cf R x bs (D ++ [M]) T') := fun M hm => hM.out.step h3 h1 h2 hm
              have hlen : Hid (∀ M, Mg R (t1 ++ t2) M → (D ++ [M]).flatten.length = b) := fun M hm => by
                simp only [List.flatten_append, List.flatten_cons, List.flatten_nil, List.append_nil, List.length_append, hm.1.length_eq]; have := hDa.out; omega
              have hTa2 : Hid (b + T'.flatten.length = N) := by show _ = _; simp only [List.flatten_cons, List.length_append] at hTl; omega
              have e1 : IntKind.i64.wrap ((a : Int) + (bs : Int)) = (md : Int) := by rw [IntKind.wrap_i64]; omega
              have e3 : IntKind.i64.wrap ((b : Int) + 2 * (bs : Int)) = ((b + 2 * bs : Nat) : Int) := by rw [IntKind.wrap_i64]; omega
              have hab' : a < b := by omega
              clear h1 h2 h3 s1 s2 s3 hmd hTl hab hM hD hTa hDa hEx
              go_wp2_with fail
              refine C1.out.mono ?_
              rintro e w1 ⟨M, rfl, hm, hD1, hW1⟩
              have D1 : Hid (Dat w1 g ex ((D ++ [M]) ++ T').flatten) := by show Dat _ _ _ _; simpa only [List.flatten_append, List.flatten_cons, List.flatten_nil, List.append_nil, List.append_assoc] using hD1
              have W1 := hid (hW.out.trans hW1)
              have M1 := hid (hst.out M hm)
              have L1 := hid (hlen.out M hm)
              clear hD1 hW1 C1 hst hlen hm
              go_wp2
              exact ⟨⟨b, b + 2 * bs, D ++ [M], T', rfl, rfl, rfl, L1, hTa2, M1, D1, W1⟩, by simp [intOf]; omega⟩
            · have hlei : ¬ (b : Int) ≤ (N : Int) := by omega
              obtain ⟨md, hmd⟩ : ∃ md, md = a + bs := ⟨_, rfl⟩
              have e1 : IntKind.i64.wrap ((a : Int) + (bs : Int)) = (md : Int) := by rw [IntKind.wrap_i64]; omega
              have e3 : IntKind.i64.wrap ((bs : Int) * 2) = ((bs * 2 : Nat) : Int) := by rw [IntKind.wrap_i64]; omega
              have hleft := hM.out.chunk.left (by omega)
              by_cases hmn : md < N
              · have hmni : (md : Int) < (N : Int) := by omega
                obtain ⟨t1, t2, rfl, h1, h2, h3⟩ : ∃ t1 t2, T = [t1, t2] ∧ t1.length = bs ∧ 0 < t2.length ∧ t2.length < bs := by
                  rcases hleft with h | ⟨t, h, h4, h5⟩ | h
                  · subst h; simp at hTl; omega
                  · subst h; simp at hTl; omega
                  · exact h
                obtain ⟨s1, s2, s3⟩ := hM.out.blk.two (T := [])
                have hTl2 : a + (t1.length + t2.length) = N := by simpa using hTl
                have C1 := hid (CSH.out a md N D.flatten t1 t2 [] wr hW (fun y hy => hEx.out y (by simp only [List.flatten_append, List.flatten_cons, List.mem_append] at hy ⊢; rcases hy with h | h <;> simp [h])) hDa (by show _ = _; omega) (by show _ = _; omega) (Nat.le_refl _) (by omega) h2 s1 s2 s3 (by have h := hD.out; simpa only [List.flatten_append, List.flatten_cons, List.flatten_nil, List.append_assoc] using h))
                have hst : Hid (∀ M, Mg R (t1 ++ t2) M → Chunk (bs * 2) (D ++ [M]) ∧ Blks (ltC cf) R (D ++ [M]) ∧ (D ++ [M]).flatten.Perm x) := fun M hm => by
                  refine ⟨Chunk.snoc (fun d hd => by have := hM.out.len d hd; omega) (by rw [hm.1.length_eq, List.length_append]; omega) (by rw [hm.1.length_eq, List.length_append]; omega), hM.out.blk.merge hm, ?_⟩
                  refine List.Perm.trans ?_ hM.out.perm
                  simp only [List.flatten_append, List.flatten_cons, List.flatten_nil, List.append_nil]
                  exact hm.1.append_left _
                clear h1 h2 h3 s1 s2 s3 hmd hTl hTl2 hab hM hD hTa hDa hEx hleft
                go_wp2_with fail
                refine C1.out.mono ?_
                rintro e w1 ⟨M, rfl, hm, hD1, hW1⟩
                have D1 : Hid (Dat w1 g ex (D ++ [M]).flatten) := by show Dat _ _ _ _; simpa only [List.flatten_append, List.flatten_cons, List.flatten_nil, List.append_nil] using hD1
                have W1 := hid (hW.out.trans hW1)
                have M1 := hid (hst.out M hm)
                clear hD1 hW1 C1 hst hm
                go_wp2
                exact ⟨⟨bs * 2, D ++ [M], rfl, by omega, by omega, M1, D1, W1⟩, by simp [intOf]; omega⟩
              · have hmni : ¬ (md : Int) < (N : Int) := by omega
                have M1 : Hid (Chunk (bs * 2) (D ++ T) ∧ Blks (ltC cf) R (D ++ T) ∧ (D ++ T).flatten.Perm x) := by
                  refine ⟨?_, hM.out.blk, hM.out.perm⟩
                  have hlen : ∀ d ∈ D, d.length = bs * 2 := fun d hd => by have := hM.out.len d hd; omega
                  rcases hleft with h | ⟨t, h, h4, h5⟩ | ⟨t1, t2, h, h4, h5, h6⟩
                  · subst h; rw [List.append_nil]; exact Chunk.all (by omega) hlen
                  · subst h; exact Chunk.snoc hlen h4 (by omega)
                  · subst h; simp at hTl; omega
                clear hmd hTl hab hM hTa hDa hEx hleft
                go_wp2
                exact ⟨⟨bs * 2, D ++ T, rfl, by omega, by omega, M1, hD, hW⟩, by simp [intOf]; omega⟩
        · have hlti : ¬ (bs : Int) < (N : Int) := by omega
          have hfin : Hid (Mg R x Q.flatten) := by
            obtain ⟨h1, h2, h3⟩ := hQ.out
            refine ⟨h3, ?_⟩
            have h4 := h3.length_eq
            have h5 := hx.out
            rcases h1.one (by omega) (by omega) with h | ⟨t, h⟩
            · subst h; simp
            · subst h
              have h6 := h2.1 t (by simp)
              simpa using h6
          clear hQ
          go_wp2
          go_end0
          exact ⟨_, rfl, hfin.out, hD.out, hW.out⟩
set_option maxRecDepth 100000 in
set_option maxHeartbeats 1600000 in
theorem sortStable_any (g B c N f : Nat) (cb : Array Value) (ex : List Value) (x : List Int) (cf : Int → Int → Int) (R : Int → Int → Prop) (E : Int → Prop) (w0 w : World) (tr : Hid (∀ a b c, R a b → R b c → R a c)) (hc : CmpOk f cb g B w0 E cf) (hN2 : N ≤ 1048576)
    (hw : Bes g B w0 w) (hE : ∀ y ∈ x, E y) (hx : Hid (x.length = N)) (hX : Hid (x.Pairwise (Cr (ltC cf) R))) (hD : Dat w g ex x) :
    Calls Try.prog 75 #[.slice (some ⟨g, 0, none⟩) N c, .func (.func f) #[] cb] w (RetS g B ex w R x) := by
  have C1 := hid (stable_any g B c N f cb ex x cf R E w0 w tr hc hN2 hw hE hx hX hD)
  clear hc hw hE hD
  go_enter Try.func75, Try.ntmps75
  go_wp2_with fail
  refine C1.out.mono ?_
  rintro e w1 ⟨M, rfl, hm, hD1, hW1⟩
  have H1 := hid hm
  have H2 := hid hD1
  have H3 := hid hW1
  clear hm hD1 hW1
  go_wp2
  go_end0
  exact ⟨M, rfl, H1.out, H2.out, H3.out⟩
end Go.Proofs.Ytmmolicodlmlkaa
namespace Go.Proofs.Ytmmolicodlmlkaa
open Go.RowKit Go.Shelf
set_option linter.unusedVariables false
set_option linter.unusedSimpArgs false

/-- What OrderByHash returns. -/
def pOrderByHash (x : List Int) (salt : Int) : List Int × Bool := if (keysQ x && inB salt 0 4294967295) = true then (ordL (rowH x salt.toNat x.length) x.length, true) else ([], false)
theorem ordL_mem {row : List Int} {n : Nat} {y : Int} (h : y ∈ ordL row n) : ∃ k : Nat, y = k ∧ k < n := by
  have h1 := (isrt_mg (RelR.tr row) (idxL n) (idxL_cr row n)).1.mem_iff.1 h
  exact idxL_mem h1
theorem atR_of {row : List Int} {k : Nat} {u : Int} (h : Hid (row[k]? = some u)) : atR row (k : Int) = u := by
  unfold atR
  rw [Int.toNat_natCast, List.getD_eq_getElem?_getD, h.out]; rfl
end Go.Proofs.Ytmmolicodlmlkaa
namespace Go.Proofs.Ytmmolicodlmlkaa
open Go.RowKit Go.Shelf
set_option linter.unusedVariables false
set_option linter.unusedSimpArgs false

/-- Where the comparing function finds its row: in the box q. -/
def RowBox (w : World) (q : Nat) (A : Option Addr) (n c : Nat) (row : List Int) : Prop := w.cell? ⟨q, 0, none⟩ = some (.slice A n c) ∧ row.length = n ∧ RdL (Value.int .i64) w A row
set_option maxHeartbeats 1600000 in
theorem cmpRow_any (q : Nat) (A : Option Addr) (n c : Nat) (row : List Int) (a b : Nat) (w : World) (hb : RowBox w q A n c row) (ha : a < n) (hb' : b < n) :
    Calls Try.prog 76 #[.int .i64 (a : Int), .int .i64 (b : Int), .pointer (some ⟨q, 0, none⟩)] w fun e w' => e = .returned (.int .i64 (cfR row (a : Int) (b : Int))) ∧ Below w.heap.size w w' := by
  obtain ⟨c0, hl, hr⟩ := hb
  obtain ⟨g, o, u, rfl, cu, hu⟩ := hr.at_ (k := a) (by omega)
  obtain ⟨g', o', v, hA', cv, hv⟩ := hr.at_ (k := b) (by omega)
  injection hA' with hA'; injection hA' with h1 h2
  subst h1 h2
  have n1 : (a : Int) < (n : Int) := by omega
  have n2 : (b : Int) < (n : Int) := by omega
  have HV : Hid (cfR row (a : Int) (b : Int) = cmpI u v) := by show _ = _; unfold cfR; rw [atR_of hu, atR_of hv]
  have CC : Hid (∀ w, Calls Try.prog 77 #[.int .i64 u, .int .i64 v] w fun e w' => e = .returned (.int .i64 (cmpI u v)) ∧ w = w') := fun w => compare_any u v w
  obtain ⟨z, hz⟩ : ∃ z, z = cmpI u v := ⟨_, rfl⟩
  rw [← hz] at HV CC
  clear hr hl hu hv hz
  go_enter Try.func76, Try.ntmps76
  go_wp2
  go_quiet ((go_at_call 77; exact Calls.quiet_of_same ((CC.out _).mono fun _ _ ⟨h, h'⟩ => ⟨h, h'.symm⟩)))
  go_wp2
  go_ret
  exact ⟨ret_int HV.out.symm, below_drewN (Below.refl _ _) _⟩
theorem ltC_cfR (row : List Int) : ltC (cfR row) = ltR row := by
  funext a b
  exact cfR_lt row a b
theorem RowBox.bes {w w' : World} {q g B : Nat} {A : Option Addr} {n c : Nat} {row : List Int} (h : RowBox w q A n c row) (hb : Bes g B w w') (hB : B = w.heap.size) (hq : q ≠ g) (hA : ∀ g' o, A = some ⟨g', o, none⟩ → row ≠ [] → g' ≠ g) : RowBox w' q A n c row := by
  obtain ⟨c0, hl, hr⟩ := h
  have hcell : ∀ b o v, b ≠ g → w.cell? ⟨b, o, none⟩ = some v → w'.cell? ⟨b, o, none⟩ = some v := fun b o v hne hc => by
    have hlt := World.block_lt_of_cell? w _ hc
    have hblk := hb.block b (by rw [hB]; exact hlt) hne
    unfold World.cell? at hc ⊢
    rw [hblk]; exact hc
  refine ⟨hcell q 0 _ hq c0, hl, fun j hj => ?_⟩
  obtain ⟨b, o, hA', hc⟩ := hr j hj
  exact ⟨b, o, hA', hcell b _ _ (hA b o hA' (by rintro rfl; simp at hj)) hc⟩
theorem Bes.belowOf {g B B0 : Nat} {w w' : World} (h : Bes g B w w') (h0 : B0 ≤ g) (h1 : B0 ≤ B) : Below B0 w w' := ⟨h.os, h.tape, h.output, h.size, fun k hk => h.block k (by omega) (by omega)⟩
set_option maxRecDepth 100000 in
set_option maxHeartbeats 3200000 in
theorem iOrderByHash_any (A : Option Addr) (c : Nat) (x : List Int) (salt : Int) (w : World) (hx : RdL (Value.int .i64) w A x) (hn : x.length ≤ 1048576) (we : ∀ y ∈ x, W64 y) (hsalt : W64 salt) :
    Calls Try.prog 14 #[.slice A x.length c, .int .i64 salt] w (RetLB (Value.int .i64) 2 w (pOrderByHash x salt)) := by
  have C0 := hid (iHashRow_any A c x salt w hx hn)
  clear hx we hsalt
  cases hg : (keysQ x && inB salt 0 4294967295) with
  | false =>
    have hp : pOrderByHash x salt = ([], false) := by simp only [pOrderByHash, hg]; rfl
    have hp2 : pHashRow x salt = ([], false) := by simp only [pHashRow, hg]; rfl
    rw [hp]
    rw [hp2] at C0
    clear hp hp2 hg
    go_enter Try.func14, Try.ntmps14
    go_wp2_with fail
    refine C0.out.mono ?_
    rintro e w1 ⟨A1, c1, rfl, ho, _, hb⟩
    have S1 := hid hb
    clear ho hb C0
    go_wp2
    go_ret2
    exact ⟨none, 0, rfl, OwnS.nil, by simp, S1.out.alloc S1.out.size _⟩
  | true =>
    have hp : pOrderByHash x salt = (ordL (rowH x salt.toNat x.length) x.length, true) := by simp only [pOrderByHash, hg]; rfl
    have hp2 : pHashRow x salt = (rowH x salt.toNat x.length, true) := by simp only [pHashRow, hg]; rfl
    rw [hp]
    rw [hp2] at C0
    obtain ⟨row, hL⟩ : ∃ L, L = rowH x salt.toNat x.length := ⟨_, rfl⟩
    have hRl : row.length = x.length := by rw [hL, rowH_length]
    rw [← hL] at C0 ⊢
    have RL := hid hRl
    clear hp hp2 hg hL hRl
    go_enter Try.func14, Try.ntmps14
    go_wp2_with fail
    refine C0.out.mono ?_
    rintro e w1 ⟨A1, c1, rfl, ho, _, hb⟩
    have R1 := hid ho.rd
    have S1 := hid hb
    obtain ⟨nr, hnr⟩ : ∃ nr, nr = row.length := ⟨_, rfl⟩
    rw [← hnr]
    have NR : Hid (row.length = nr) := hnr.symm
    have NX : Hid (nr = x.length) := by show _ = _; rw [hnr, RL.out]
    have hAlt : Hid (∀ g o, A1 = some ⟨g, o, none⟩ → row ≠ [] → g < w1.heap.size) := fun g o hA hne => by
      obtain ⟨b, o', y, hA', hc, _⟩ := R1.out.at_ (k := 0) (List.length_pos_iff.2 hne)
      rw [hA] at hA'; injection hA' with hA'; injection hA' with h1 h2
      have h3 := World.block_lt_of_cell? w1 _ hc
      rw [h1]; exact h3
    have BX : Hid (RowBox (w1.alloc (.cells #[.slice A1 nr c1] 22)) w1.heap.size A1 nr c1 row) := ⟨by simp, NR.out, R1.out.below (below_a1 _ _)⟩
    have S2 : Hid (Below w.heap.size w (w1.alloc (.cells #[.slice A1 nr c1] 22))) := S1.out.alloc S1.out.size _
    obtain ⟨B, hB⟩ : ∃ B, B = w1.heap.size + 1 := ⟨_, rfl⟩
    have HB := hid hB
    have hB2 : Hid ((w1.alloc (.cells #[.slice A1 nr c1] 22)).heap.size = B) := by show _ = _; rw [hB]; simp
    have hS0 : w.heap.size ≤ w1.heap.size := S1.out.size
    have hq : w1.heap.size < B := by omega
    clear ho hb C0 R1 S1 hnr hB
    go_wp2
    go_loopw [8, 21] (fun v t wr => ∃ k : Nat, k ≤ x.length ∧ t = .int .i64 k ∧ Hid (OwnV wr B v (idxL k)) ∧ Hid (Below B (w1.alloc (.cells #[.slice A1 nr c1] 22)) wr) ∧ Hid (k = 0 → v = .slice (some ⟨B, 0, none⟩) 0 0 ∧ Blk wr B 2 []) ∧ B ≤ wr.heap.size) (fun v t _ => x.length - (intOf t).toNat)
    case atStart =>
      have h := below_a1 (w1.alloc (.cells #[.slice A1 nr c1] 22)) (.cells #[] 2)
      have e := hB2.out
      refine ⟨0, Nat.zero_le _, rfl, ?_, ?_, fun _ => ⟨?_, ?_⟩, ?_⟩
      · have := OwnV.made (w1.alloc (.cells #[.slice A1 nr c1] 22)) (B := B) (by omega)
        show OwnV _ _ _ _
        simpa [idxL] using this
      · rw [← e]; exact h
      · rw [HB.out]
      · have := Blk.new (w1.alloc (.cells #[.slice A1 nr c1] 22)) 2 []
        rw [e] at this; exact this
      · have := h.size; omega
    case round =>
      obtain ⟨k, hk, rfl, hO, hW, hz, hsz⟩ := hrel
      by_cases hlt : k < x.length
      · have hi : (k : Int) < (x.length : Int) := by omega
        have hol : (idxL k).length ≤ 1048577 := by rw [idxL_length]; omega
        go_wp2_with (at_builtin; refine app_int rfl _ _ rfl (k : Int) hO.out hW.out rfl rfl hol hsz ?_)
        intro v' w3 O3 W3 hg3 _
        have O4 : Hid (OwnV w3 B v' (idxL (k + 1))) := by show OwnV _ _ _ _; rw [idxL_succ]; exact O3
        have hs3 : B ≤ w3.heap.size := by have := hg3.out; omega
        have hz' : Hid (k + 1 = 0 → v' = .slice (some ⟨B, 0, none⟩) 0 0 ∧ Blk w3 B 2 []) := fun h => by omega
        clear O3 hz hO hW hol hg3
        go_wp2
        exact ⟨⟨k + 1, by omega, by go_num, O4, W3, hz', hs3⟩, by simp [intOf]; omega⟩
      · have hi : ¬ (k : Int) < (x.length : Int) := by omega
        obtain rfl : k = x.length := by omega
        obtain ⟨n, hnx⟩ : ∃ n, n = x.length := ⟨_, rfl⟩
        have NXX := hid hnx
        rw [← hnx] at hO hz
        obtain ⟨g, cv, ex, rfl, hgB, hgD, hgl⟩ : ∃ g cv ex, u8 = .slice (some ⟨g, 0, none⟩) n cv ∧ B ≤ g ∧ Dat wr g ex (idxL n) ∧ g < wr.heap.size := by
          rcases Nat.eq_zero_or_pos n with h0 | h0
          · obtain ⟨h1, h2⟩ := hz.out h0
            subst h0
            exact ⟨B, 0, [], h1, Nat.le_refl _, by simpa [Dat, idxL] using h2, h2.lt⟩
          · obtain ⟨A3, c3, h1, h2⟩ := hO.out.ownS
            rw [idxL_length] at h1
            obtain ⟨g, ex, h3, h4, h5⟩ := h2 (by intro h6; have := congrArg List.length h6; rw [idxL_length] at this; simp at this; omega)
            subst h3
            exact ⟨g, c3, ex, h1, h4, h5, h5.lt⟩
        have WR := hW
        have BR : Hid (RowBox wr w1.heap.size A1 nr c1 row) := by
          obtain ⟨b0, b1, b2⟩ := BX.out
          have hb : Below (w1.alloc (.cells #[.slice A1 nr c1] 22)).heap.size (w1.alloc (.cells #[.slice A1 nr c1] 22)) wr := by rw [hB2.out]; exact WR.out
          exact ⟨(hb.cell (World.block_lt_of_cell? _ _ b0)).trans b0, b1, b2.below hb⟩
        have CK : Hid (CmpOk 76 #[.pointer (some ⟨w1.heap.size, 0, none⟩)] g wr.heap.size wr (fun y => ∃ j : Nat, y = j ∧ j < n) (cfR row)) :=
          ⟨enters_of Try.func76 (by kernel_rfl) rfl, Nat.le_refl _, fun w' hb' u v ⟨j, hj, hjl⟩ ⟨j', hj', hjl'⟩ => by
            subst hj hj'
            exact cmpRow_any w1.heap.size A1 nr c1 row j j' w' (BR.out.bes hb' rfl (by omega) (fun g' o hA hne => by have := hAlt.out g' o hA hne; omega)) (by have := NX.out; have := NXX.out; omega) (by have := NX.out; have := NXX.out; omega)⟩
        have CS := hid (sortStable_any g wr.heap.size cv n 76 #[.pointer (some ⟨w1.heap.size, 0, none⟩)] ex (idxL n) (cfR row) (RelR row) (fun y => ∃ j : Nat, y = j ∧ j < n) wr wr (RelR.tr row) CK.out (by have := NXX.out; omega) (Bes.refl _ _ _) (fun y hy => idxL_mem hy) (idxL_length n) (by show List.Pairwise _ _; rw [ltC_cfR]; exact idxL_cr row n) hgD)
        have hwB : w.heap.size ≤ g := by omega
        have hn0 : n ≤ 1048576 := by have := NXX.out; omega
        clear hO hz hgD hnx CK BR
        go_wp2_with fail
        refine CS.out.mono ?_
        rintro e w5 ⟨M, rfl, hm, hD5, hW5⟩
        have HM : Hid (M = ordL row x.length) := by show _ = _; rw [← NXX.out]; exact ordL_of hm
        have H1 : Hid (OwnS (Value.int .i64) w5 w.heap.size 2 (some ⟨g, 0, none⟩) M) := fun _ => ⟨g, ex, rfl, hwB, hD5⟩
        have H2 : Hid (Below w.heap.size w w5) := (S2.out.trans (WR.out.mono (by omega))).trans (hW5.belowOf hwB (by omega))
        have HL : Hid (M.length = n) := by show _ = _; rw [hm.1.length_eq, idxL_length]
        clear hm hD5 hW5 CS
        go_wp2
        go_ret2
        rw [← HM.out, ← HL.out]
        exact ⟨_, cv, rfl, H1.out, by have := HL.out; show M.length ≤ _; omega, H2.out⟩
end Go.Proofs.Ytmmolicodlmlkaa
namespace Go.Proofs.Ytmmolicodlmlkaa
open Go.RowKit Ieee
set_option linter.unusedVariables false
set_option linter.unusedSimpArgs false

/-- At most 256 keys. -/
def keysB (x : List Int) : Bool := decide ((x.length : Int) ≤ 256) && allB x 0 4294967295
theorem keysB_iff {x : List Int} (h : keysB x = true) : x.length ≤ 256 ∧ ∀ y ∈ x, 0 ≤ y ∧ y ≤ 4294967295 := by
  simp only [keysB, Bool.and_eq_true, decide_eq_true_eq] at h
  exact ⟨by omega, allB_iff h.2⟩
/-- The keys of the least hashes are the same. -/
def sameAt (a b : List Int) (salt : Nat) : Bool := a.getD (leastTo a salt a.length) 0 == b.getD (leastTo b salt b.length) 0
/-- For how many of the first n salts. -/
def likeTo (a b s : List Int) (n : Nat) : Nat := (List.range n).countP fun i => sameAt a b (s.getD i 0).toNat
theorem likeTo_succ (a b s : List Int) (n : Nat) : likeTo a b s (n + 1) = likeTo a b s n + (sameAt a b (s.getD n 0).toNat).toNat := by
  unfold likeTo
  rw [List.range_succ, List.countP_append, List.countP_singleton]
  cases sameAt a b (s.getD n 0).toNat <;> rfl
theorem likeTo_le (a b s : List Int) (n : Nat) : likeTo a b s n ≤ n := by
  have := List.countP_le_length (l := List.range n) (p := fun i => sameAt a b (s.getD i 0).toNat)
  rw [List.length_range] at this
  exact this
/-- The lists are valid. -/
def vLike (a b s : List Int) : Bool := keysB a && keysB b && keysB s && !decide ((a.length : Int) < 1) && !decide ((b.length : Int) < 1) && !decide ((s.length : Int) < 1) && !decide ((s.length : Int) > 32)
/-- What LikeShare returns. -/
def pLikeShare (a b s : List Int) : Nat × Bool := if vLike a b s = true then (shareB (likeTo a b s s.length) s.length, true) else (0, false)
theorem vLike_iff {a b s : List Int} (h : vLike a b s = true) : keysB a = true ∧ keysB b = true ∧ keysB s = true ∧ 0 < a.length ∧ 0 < b.length ∧ 0 < s.length ∧ s.length ≤ 32 := by
  simp only [vLike, Bool.and_eq_true, Bool.not_eq_true', decide_eq_false_iff_not] at h
  obtain ⟨⟨⟨⟨⟨⟨h1, h2⟩, h3⟩, h4⟩, h5⟩, h6⟩, h7⟩ := h
  exact ⟨h1, h2, h3, by omega, by omega, by omega, by omega⟩
theorem eq0_lt1 (n : Nat) (v : Bool) (h : decide ((n : Int) < 1) = v) : ((n : Int) == 0) = v := by
  rw [← h]
  by_cases h1 : (n : Int) < 1
  · rw [decide_eq_true h1, beq_iff_eq]; omega
  · rw [decide_eq_false h1, beq_eq_false_iff_ne]; omega
set_option maxRecDepth 100000 in
set_option maxHeartbeats 3200000 in
theorem iLikeShare_any (A0 : Option Addr) (c0 : Nat) (a : List Int) (A1 : Option Addr) (c1 : Nat) (b : List Int) (A2 : Option Addr) (c2 : Nat) (s : List Int) (w : World) (hx0 : RdL (Value.int .i64) w A0 a) (hn0 : a.length ≤ 1048576) (we0 : ∀ y ∈ a, W64 y) (hx1 : RdL (Value.int .i64) w A1 b) (hn1 : b.length ≤ 1048576) (we1 : ∀ y ∈ b, W64 y) (hx2 : RdL (Value.int .i64) w A2 s) (hn2 : s.length ≤ 1048576) (we2 : ∀ y ∈ s, W64 y) :
    Calls Try.prog 64 #[.slice A0 a.length c0, .slice A1 b.length c1, .slice A2 s.length c2] w fun e w' => e = .returned (.tuple #[.float .f32 (pLikeShare a b s).1, .bool (pLikeShare a b s).2]) ∧ Below w.heap.size w w' := by
  have X0 := hid hx0
  have X1 := hid hx1
  have X2 := hid hx2
  clear hx0 hx1 hx2 we0 we1 we2
  have bad : ∀ u0 u1 u2 v0 v1 v2 v3 : Bool, keysB a = u0 → keysB b = u1 → allB s 0 4294967295 = u2 → decide ((a.length : Int) < 1) = v0 → decide ((b.length : Int) < 1) = v1 → decide ((s.length : Int) < 1) = v2 → decide ((s.length : Int) > 32) = v3 → (u0 && u1 && u2 && !v0 && !v1 && !v2 && !v3) = false →
      Calls Try.prog 64 #[.slice A0 a.length c0, .slice A1 b.length c1, .slice A2 s.length c2] w fun e w' => e = .returned (.tuple #[.float .f32 0, .bool false]) ∧ Below w.heap.size w w' := by
    intro u0 u1 u2 v0 v1 v2 v3 hu0 hu1 hu2 hv0 hv1 hv2 hv3 hno
    have K0 : Hid (Calls Try.prog 65 #[.slice A0 a.length c0] w fun e w' => e = .returned (.bool u0) ∧ w = w') := hu0 ▸ AreKeys_any A0 c0 a w X0.out hn0
    have K1 : Hid (Calls Try.prog 65 #[.slice A1 b.length c1] w fun e w' => e = .returned (.bool u1) ∧ w = w') := hu1 ▸ AreKeys_any A1 c1 b w X1.out hn1
    have K2 : Hid (Calls Try.prog 79 #[.slice A2 s.length c2] w fun e w' => e = .returned (.bool u2) ∧ w = w') := hu2 ▸ areAllKeys_any A2 c2 s w X2.out hn2
    have hv3' : decide ((32 : Int) < (s.length : Int)) = v3 := hv3
    have hc0 : ((a.length : Int) == 0) = v0 := eq0_lt1 _ _ hv0
    have hc1 : ((b.length : Int) == 0) = v1 := eq0_lt1 _ _ hv1
    clear hu0 hu1 hu2
    cases u0
    case' true =>
      cases u1
      case' true =>
        cases v0
        case' false =>
          cases v1
          case' false =>
            cases v2
            case' false =>
              cases v3
              case' false =>
                cases u2
    all_goals
      first
      | (exfalso; revert hno; decide)
      | (clear hno
         try simp only [decide_eq_true_eq, decide_eq_false_iff_not] at hv0
         try simp only [decide_eq_true_eq, decide_eq_false_iff_not] at hv1
         try simp only [decide_eq_true_eq, decide_eq_false_iff_not] at hv2
         try simp only [decide_eq_true_eq, decide_eq_false_iff_not] at hv3
         try simp only [decide_eq_true_eq, decide_eq_false_iff_not] at hv3'
         go_enter Try.func64, Try.ntmps64
         go_wp2_with (first | (go_at_call 65; with_reducible refine K0.out.mono ?_; rintro e w' ⟨rfl, rfl⟩) | (go_at_call 65; with_reducible refine K1.out.mono ?_; rintro e w' ⟨rfl, rfl⟩) | (go_at_call 79; with_reducible refine K2.out.mono ?_; rintro e w' ⟨rfl, rfl⟩))
         go_ret2
         exact ⟨rfl, Below.refl _ _⟩)
  cases hg : vLike a b s with
  | false =>
    have hp : pLikeShare a b s = (0, false) := by unfold pLikeShare; rw [if_neg (by simp [hg])]
    rw [hp]
    refine bad _ _ _ _ _ _ _ rfl rfl rfl rfl rfl rfl rfl ?_
    unfold vLike at hg
    by_cases h32 : (s.length : Int) > 32
    · rw [decide_eq_true h32]; simp
    · have hks : keysB s = allB s 0 4294967295 := by unfold keysB; rw [decide_eq_true (by omega), Bool.true_and]
      rw [hks] at hg
      exact hg
  | true =>
  obtain ⟨hka, hkb, hks, hpa, hpb, hps, hs32⟩ := vLike_iff hg
  obtain ⟨ha256, hba⟩ := keysB_iff hka
  obtain ⟨hb256, hbb⟩ := keysB_iff hkb
  obtain ⟨_, hbs⟩ := keysB_iff hks
  have hp : Hid (pLikeShare a b s = (shareB (likeTo a b s s.length) s.length, true)) := by show _ = _; unfold pLikeShare; rw [if_pos hg]
  have hq : ∀ t w, (binOp .quo t (.float .f32 (floatOfInt .f32 (likeTo a b s s.length : Int))) (.float .f32 (floatOfInt .f32 (s.length : Int)))).run Try.prog w = .ok (.float .f32 (shareB (likeTo a b s s.length) s.length)) w := fun t w => run_float_arith w .quo t .f32 _ _ _ (shareB_spec (likeTo_le a b s s.length) hps (by omega)).1
  have BA := hid hba
  have BB := hid hbb
  have BS := hid hbs
  have v0 : ¬ (a.length : Int) < 1 := by omega
  have v1 : ¬ (b.length : Int) < 1 := by omega
  have v2 : ¬ (s.length : Int) < 1 := by omega
  have v3 : ¬ (32 : Int) < (s.length : Int) := by omega
  have v4 : ((a.length : Int) == 0) = false := beq_eq_false_iff_ne.2 (by omega)
  have v5 : ((b.length : Int) == 0) = false := beq_eq_false_iff_ne.2 (by omega)
  have K0 : Hid (Calls Try.prog 65 #[.slice A0 a.length c0] w fun e w' => e = .returned (.bool true) ∧ w = w') := hka ▸ AreKeys_any A0 c0 a w X0.out hn0
  have K1 : Hid (Calls Try.prog 65 #[.slice A1 b.length c1] w fun e w' => e = .returned (.bool true) ∧ w = w') := hkb ▸ AreKeys_any A1 c1 b w X1.out hn1
  have hal : allB s 0 4294967295 = true := by unfold keysB at hks; rw [Bool.and_eq_true] at hks; exact hks.2
  have K2 : Hid (Calls Try.prog 79 #[.slice A2 s.length c2] w fun e w' => e = .returned (.bool true) ∧ w = w') := hal ▸ areAllKeys_any A2 c2 s w X2.out hn2
  clear hal
  clear hka hkb hks hba hbb hbs bad hg
  go_enter Try.func64, Try.ntmps64
  go_wp2_with (first | (go_at_call 65; with_reducible refine K0.out.mono ?_; rintro e w' ⟨rfl, rfl⟩) | (go_at_call 65; with_reducible refine K1.out.mono ?_; rintro e w' ⟨rfl, rfl⟩) | (go_at_call 79; with_reducible refine K2.out.mono ?_; rintro e w' ⟨rfl, rfl⟩))
  go_loopw [8, 10, 11, 12, 13, 14, 50] (fun v e1_ e2_ e3_ e4_ e5_ i wr => ∃ k z : Nat, k ≤ s.length ∧ i = .int .i64 k ∧ v = .int .i64 z ∧ z ≤ k ∧ Hid (Below w.heap.size w wr) ∧ Hid (likeTo a b s k = z)) (fun v e1_ e2_ e3_ e4_ e5_ i _ => s.length - (intOf i).toNat)
  case atStart => exact ⟨0, 0, Nat.zero_le _, rfl, rfl, Nat.le_refl _, Below.refl _ _, rfl⟩
  case round =>
    obtain ⟨k, z, hk, rfl, rfl, hzk, hW, hh⟩ := hrel
    by_cases hlt : k < s.length
    · have hi : (k : Int) < (s.length : Int) := by omega
      obtain ⟨bs, os, y, rfl, hcy, hyk⟩ := (X2.out.below hW.out).at_ hlt
      have hyb_ := BS.out y (List.mem_of_getElem? hyk.out)
      obtain ⟨yn, rfl⟩ := Int.eq_ofNat_of_zero_le hyb_.1
      have hyl : yn < 4294967296 := by omega
      have hla := leastTo_lt a yn hpa
      have hlb := leastTo_lt b yn hpb
      have L0 := hid (fun w' (h : RdL (Value.int .i64) w' A0 a) => least_any A0 c0 a yn w' h ha256 hpa BA.out hyl)
      have L1 := hid (fun w' (h : RdL (Value.int .i64) w' A1 b) => least_any A1 c1 b yn w' h hb256 hpb BB.out hyl)
      obtain ⟨ka, hkae⟩ : ∃ q, q = leastTo a yn a.length := ⟨_, rfl⟩
      obtain ⟨kb, hkbe⟩ : ∃ q, q = leastTo b yn b.length := ⟨_, rfl⟩
      rw [← hkae] at hla L0
      rw [← hkbe] at hlb L1
      have HLA := hid hkae
      have HLB := hid hkbe
      clear hkae hkbe hyb_
      obtain ⟨ha_, hae⟩ : ∃ q, q = hashAt a yn ka := ⟨_, rfl⟩
      obtain ⟨hb_, hbe⟩ : ∃ q, q = hashAt b yn kb := ⟨_, rfl⟩
      rw [← hae] at L0
      rw [← hbe] at L1
      clear hae hbe
      go_wp2_with fail
      refine (L0.out _ (X0.out.below hW.out)).mono ?_
      rintro e w2 ⟨rfl, hb1⟩
      have W2 := hid (hW.out.trans (hb1.mono hW.out.size))
      clear hb1 hcy
      go_wp2_with fail
      refine (L1.out _ (X1.out.below W2.out)).mono ?_
      rintro e w3 ⟨rfl, hb1⟩
      have W3 := hid (W2.out.trans (hb1.mono W2.out.size))
      clear hb1 L0 L1
      obtain ⟨b0, o0, ya, hA0, hca, hya⟩ := (X0.out.below W3.out).at_ hla
      obtain ⟨b1, o1, yb, hA1, hcb, hyb⟩ := (X1.out.below W3.out).at_ hlb
      have hstep : likeTo a b s (k + 1) = z + (ya == yb).toNat := by
        rw [likeTo_succ, hh.out, getD_of hyk]
        simp only [Int.toNat_natCast, sameAt]
        rw [← HLA.out, ← HLB.out, getD_of hya, getD_of hyb]
      have HS := hid hstep
      clear hstep
      have i0 : (ka : Int) < (a.length : Int) := by omega
      have i1 : (kb : Int) < (b.length : Int) := by omega
      subst hA0 hA1
      cases hab : (ya == yb) with
      | true =>
        have he : Hid (likeTo a b s (k + 1) = z + 1) := by show _ = _; rw [HS.out, hab]; rfl
        go_wp2
        go_quiet (fail)
        go_wp2
        exact ⟨⟨k + 1, z + 1, by omega, by go_num, by go_num, by omega, below_drewX W3.out, he⟩, by simp [intOf]; omega⟩
      | false =>
        have he : Hid (likeTo a b s (k + 1) = z) := by show _ = _; rw [HS.out, hab]; rfl
        go_wp2
        go_quiet (fail)
        go_wp2
        exact ⟨⟨k + 1, z, by omega, by go_num, rfl, by omega, below_drewX W3.out, he⟩, by simp [intOf]; omega⟩
    · have hi : ¬ (k : Int) < (s.length : Int) := by omega
      obtain rfl : k = s.length := by omega
      have hzz := hh.out
      subst hzz
      go_wp2_with (simp only [hq])
      go_ret2
      exact ⟨by rw [hp.out]; rfl, hW.out⟩
end Go.Proofs.Ytmmolicodlmlkaa
namespace Go.Proofs.Ytmmolicodlmlkaa
open Go.RowKit
set_option linter.unusedVariables false
set_option linter.unusedSimpArgs false

/-- The places of the keys. -/
def spreadP (x : List Int) (salt n : Nat) : List Int := (List.range x.length).map fun i => (belowN (x.getD i 0).toNat salt n : Int)
theorem spreadP_at {x : List Int} {salt n k : Nat} (h : k < x.length) : (spreadP x salt n)[k]? = some (belowN (x.getD k 0).toNat salt n : Int) := by simp [spreadP, h]
theorem spreadP_length (x : List Int) (salt n : Nat) : (spreadP x salt n).length = x.length := by simp [spreadP]
/-- How many keys fall on each place. -/
def spreadL (x : List Int) (salt n : Nat) : List Int := addAt 1 (List.replicate n 0) (spreadP x salt n)
theorem spreadL_length (x : List Int) (salt n : Nat) : (spreadL x salt n).length = n := by unfold spreadL; rw [addAt_length, List.length_replicate]
/-- It hands back n counts of its own, and true. -/
def RetSp (w : World) (n : Nat) (l : List Int) (e : Ending) (w' : World) : Prop := ∃ A c, e = .returned (.tuple #[.slice A n c, .bool true]) ∧ OwnS (Value.int .i64) w' w.heap.size 2 A l ∧ Below w.heap.size w w'
def vSpread (x : List Int) (salt n : Int) : Bool := keysB x && inB salt 0 4294967295 && inB n 1 256
theorem take_bound {l : List Int} {n k : Nat} (hl : l.length ≤ 256) : ∀ y ∈ addAt 1 (List.replicate n 0) (l.take k), -256 ≤ y ∧ y ≤ 256 := fun y hy => by
  have h1 := addAt_bound (lo := 0) (hi := 0) (D := 1) (d := 1) (x := List.replicate n 0) (l := l.take k) (fun z hz => by obtain ⟨_, rfl⟩ := List.mem_replicate.1 hz; omega) (by omega) (by omega) y hy
  have h2 : (l.take k).length ≤ 256 := by rw [List.length_take]; omega
  omega
set_option maxRecDepth 100000 in
set_option maxHeartbeats 1600000 in
theorem iSpread_yes (A : Option Addr) (c : Nat) (x : List Int) (salt n : Nat) (w : World) (hx : RdL (Value.int .i64) w A x) (hn : x.length ≤ 1048576) (hv : vSpread x salt n = true) :
    Calls Try.prog 55 #[.slice A x.length c, .int .i64 salt, .int .i64 n] w (RetSp w n (spreadL x salt n)) := by
  have X := hid hx
  clear hx
  simp only [vSpread, Bool.and_eq_true] at hv
  obtain ⟨⟨hk, hs⟩, hn0⟩ := hv
  obtain ⟨h256, hbd⟩ := keysB_iff hk
  obtain ⟨hs1, hs2⟩ := inB_iff.1 hs
  obtain ⟨hn1, hn2⟩ := inB_iff.1 hn0
  have K : Hid (Calls Try.prog 65 #[.slice A x.length c] w fun e w' => e = .returned (.bool true) ∧ w = w') := hk ▸ AreKeys_any A c x w X.out hn
  have BD := hid hbd
  have hmk := run_make_row' (P := Try.prog) 22 2 (.int .i64 0) 8 Try.underlying22 (by kernel_rfl) rfl .i64 .i64 n (by omega) (by omega)
  obtain ⟨w0, hw0⟩ : ∃ w0, w0 = w.alloc (.cells (madeCells #[.int .i64 0] n) 2) := ⟨_, rfl⟩
  have O0 : Hid (OwnS (Value.int .i64) w0 w.heap.size 2 (some ⟨w.heap.size, 0, none⟩) (List.replicate n 0)) := by
    rw [hw0]
    refine OwnS.of_blk ?_ (Nat.le_refl _)
    rw [madeCells_one, List.map_replicate]
    exact Blk.new _ _ _
  have S0 : Hid (Below w.heap.size w w0) := by rw [hw0]; exact below_a1 _ _
  clear hk hbd
  go_enter Try.func55, Try.ntmps55
  go_wp2_with (go_at_call 65; with_reducible refine K.out.mono ?_; rintro e w' ⟨rfl, rfl⟩)
  go_wp2_with (first | (go_at_call 63; refine (IsKey_any _ _).mono ?_; rintro e w' ⟨rfl, rfl⟩) | (go_at_call 97; refine (within_any _ _ _ _).mono ?_; rintro e w' ⟨rfl, rfl⟩))
  rw [← hw0]
  clear hw0 hmk hs hn0
  go_loopw [10, 28] (fun at_ i wr => ∃ k : Nat, k ≤ x.length ∧ i = .int .i64 k ∧ Hid (OwnS (Value.int .i64) wr w.heap.size 2 (some ⟨w.heap.size, 0, none⟩) (addAt 1 (List.replicate n 0) ((spreadP x salt n).take k))) ∧ Hid (Touch w0 wr (some ⟨w.heap.size, 0, none⟩) n)) (fun at_ i _ => x.length - (intOf i).toNat)
  case atStart => exact ⟨0, Nat.zero_le _, rfl, by rw [addAt_zero]; exact O0, Touch.refl⟩
  case round =>
    obtain ⟨k, hkr, rfl, hok, hT⟩ := hrel
    have hTB := hid ((show Touch w0 wr (some ⟨w.heap.size, 0, none⟩) (List.replicate n (0 : Int)).length by rw [List.length_replicate]; exact hT.out).below O0.out)
    have SR := hid (S0.out.trans hTB.out)
    by_cases hlt : k < x.length
    · have hi : (k : Int) < (x.length : Int) := by omega
      obtain ⟨b, o, y, rfl, hcy, hyk⟩ := (X.out.below SR.out).at_ hlt
      have hyb := BD.out y (List.mem_of_getElem? hyk.out)
      obtain ⟨yn, rfl⟩ := Int.eq_ofNat_of_zero_le hyb.1
      have hyl : yn < 4294967296 := by omega
      have hat := belowN_lt yn salt n (by omega)
      obtain ⟨m, hme⟩ : ∃ m, m = belowN yn salt n := ⟨_, rfl⟩
      have C1 : Hid (∀ w, Calls Try.prog 110 #[.int .i64 (yn : Int), .int .i64 (salt : Int), .int .i64 (n : Int)] w fun e w'' => e = .returned (.int .i64 m) ∧ w = w'') := fun w => hme ▸ ibelow_any yn salt n w hyl (by omega) (by omega)
      have hsp : Hid ((spreadP x salt n)[k]? = some (m : Int)) := by
        show _ = _
        rw [spreadP_at hlt, getD_of hyk, hme]
        simp
      rw [← hme] at hat
      clear hme hyb
      obtain ⟨g', u, hg', hgB, hcu, hfu, hum, hput⟩ := hok.out.put (j := m) (by rw [addAt_length, List.length_replicate]; exact hat)
      injection hg' with hg'; injection hg' with hg'
      subst hg'
      have hub := take_bound (l := spreadP x salt n) (n := n) (k := k) (by rw [spreadP_length]; omega) u (List.mem_of_getElem? hum.out)
      have hO2 := hput (u + 1)
      rw [addAt_succ hsp hum] at hO2
      have hT2 := hid (hT.out.set_ (by omega) m (.int .i64 (u + 1)))
      have hm1 : (m : Int) < (n : Int) := by omega
      have hm0 : (0 : Int) ≤ (m : Int) := by omega
      have hu1 := hub.1
      have hu2 := hub.2
      clear hput hgB hub hum
      go_wp2_with (go_at_call 110; refine (C1.out _).mono ?_; rintro e w' ⟨rfl, rfl⟩)
      exact ⟨⟨k + 1, by omega, by go_num, hO2, hT2⟩, by simp [intOf]; omega⟩
    · have hi : ¬ (k : Int) < (x.length : Int) := by omega
      have he := hok.out
      rw [List.take_of_length_le (by rw [spreadP_length]; omega)] at he
      have HE := hid he
      clear he
      go_wp2
      go_ret2
      exact ⟨some ⟨w.heap.size, 0, none⟩, n, rfl, HE.out, SR.out⟩
end Go.Proofs.Ytmmolicodlmlkaa
namespace Go.Proofs.Ytmmolicodlmlkaa
open Go.RowKit
open Go.MapKept (IsKey run_checkKey run_findKey run_keyThatStays)
set_option linter.unusedVariables false
set_option linter.unusedSimpArgs false

/-- Block b is a map in which these numbers stand for true. -/
def MapS (w : World) (b : Nat) (D : List Int) : Prop := ∃ es c, w.heap[b]? = some (.map es c) ∧ es.toList.map (·.key) = D.map (Value.int .i64) ∧ ∀ e ∈ es.toList, e.val = .bool true
theorem MapS.key {es : Array MapEntry} {D : List Int} (h : es.toList.map (·.key) = D.map (Value.int .i64)) : ∀ e ∈ es.toList, IsKey (.int .i64) e.key := by
  intro e he
  have : e.key ∈ es.toList.map (·.key) := List.mem_map_of_mem he
  rw [h] at this
  obtain ⟨y, _, hy⟩ := List.mem_map.1 this
  rw [← hy]; rfl
theorem MapS.mem {es : Array MapEntry} {D : List Int} (h : es.toList.map (·.key) = D.map (Value.int .i64)) (y : Int) : y ∈ D ↔ ∃ e ∈ es.toList, e.key = .int .i64 y := by
  constructor
  · intro hy
    have : Value.int .i64 y ∈ D.map (Value.int .i64) := List.mem_map_of_mem hy
    rw [← h] at this
    obtain ⟨e, he, h1⟩ := List.mem_map.1 this
    exact ⟨e, he, h1⟩
  · rintro ⟨e, he, h1⟩
    have : e.key ∈ es.toList.map (·.key) := List.mem_map_of_mem he
    rw [h, h1] at this
    obtain ⟨z, hz, h2⟩ := List.mem_map.1 this
    injection h2 with _ h2
    subst h2; exact hz
theorem mapS_made (w : World) : MapS (w.alloc (.map #[] 0)) w.heap.size [] := ⟨#[], 0, heap_alloc_new w _, rfl, by simp⟩
theorem MapS.below {w w' : World} {b : Nat} {D : List Int} (h : MapS w b D) (hb : w'.heap[b]? = w.heap[b]?) : MapS w' b D := by
  obtain ⟨es, c, h1, h2⟩ := h
  exact ⟨es, c, hb.trans h1, h2⟩
section
variable {P : Program} {w : World} {t k e : TypeId} {b : Nat} {D : List Int} {y : Int}
theorem run_look_set (h : MapS w b D) (ht : P.underlying t = some (.map k e)) (hk : P.underlying k = some (.int .i64)) (hz : (zeroValue e).run P w = .ok (.bool false) w) :
    (Instr.lookup t (.map (some b)) (.int .i64 y) false).run P w = .ok (.bool (decide (y ∈ D))) w := by
  obtain ⟨es, c, hb, hK, hV⟩ := h
  have hkey : IsKey (.int .i64) (.int .i64 y) := rfl
  rcases MapKept.findNow_spec hkey es.toList 0 (MapS.key hK) with ⟨h1, h2⟩ | ⟨j, e0, h1, h2, h3⟩
  · have hn : ¬ y ∈ D := fun hy => by
      obtain ⟨e, he, h4⟩ := (MapS.mem hK y).1 hy
      exact h2 e he h4
    rw [decide_eq_false hn]
    simp [Instr.lookup, run_underlying ht, MapKept.run_getObj_map hb, run_checkKey hk hkey, run_findKey hk h1, hz, Result.andThen]
  · have hm : e0 ∈ es.toList := List.mem_of_getElem? h2
    have hy : y ∈ D := (MapS.mem hK y).2 ⟨e0, hm, h3⟩
    rw [decide_eq_true hy]
    simp [Instr.lookup, run_underlying ht, MapKept.run_getObj_map hb, run_checkKey hk hkey, run_findKey hk h1, hV e0 hm, Result.andThen]
theorem run_put_set (h : MapS w b D) (ht : P.underlying t = some (.map k e)) (hk : P.underlying k = some (.int .i64)) :
    ∃ w', (Instr.mapUpdate t (.map (some b)) (.int .i64 y) (.bool true)).run P w = .ok () w' ∧ MapS w' b (if y ∈ D then D else D ++ [y]) ∧ w.grownBy w' (some b) := by
  obtain ⟨es, c, hb, hK, hV⟩ := h
  have hkey : IsKey (.int .i64) (.int .i64 y) := rfl
  have grown : ∀ o, w.grownBy { w with heap := w.heap.setIfInBounds b o } (some b) := fun o => ⟨rfl, rfl, rfl, by simp, fun k _ hk => Array.getElem?_setIfInBounds_ne fun e => hk (by rw [e])⟩
  have hlt : b < w.heap.size := (Array.getElem?_eq_some_iff.1 hb).1
  have at_ : ∀ o, ({ w with heap := w.heap.setIfInBounds b o } : World).heap[b]? = some o := fun o => by simp [hlt]
  rcases MapKept.findNow_spec hkey es.toList 0 (MapS.key hK) with ⟨h1, h2⟩ | ⟨j, e0, h1, h2, h3⟩
  · have hn : ¬ y ∈ D := fun hy => by
      obtain ⟨e, he, h4⟩ := (MapS.mem hK y).1 hy
      exact h2 e he h4
    rw [if_neg hn]
    refine ⟨_, by simp [Instr.mapUpdate, run_underlying ht, MapKept.run_getObj_map hb, run_checkKey hk hkey, run_findKey hk h1, MapKept.run_setObj_map _ hb, Result.andThen]; rfl, ⟨_, _, at_ _, ?_, ?_⟩, grown _⟩
    · simp [hK]
    · intro e he
      simp only [Array.toList_push, List.mem_append, List.mem_singleton] at he
      rcases he with he | rfl
      · exact hV e he
      · rfl
  · have hm : e0 ∈ es.toList := List.mem_of_getElem? h2
    have hy : y ∈ D := (MapS.mem hK y).2 ⟨e0, hm, h3⟩
    have hj : es[j]? = some e0 := by simpa using h2
    rw [if_pos hy]
    refine ⟨_, by simp [Instr.mapUpdate, run_underlying ht, MapKept.run_getObj_map hb, run_checkKey hk hkey, run_findKey hk h1, hj, h3, run_keyThatStays hkey, MapKept.run_setObj_map _ hb, Result.andThen]; rfl, ⟨_, _, at_ _, ?_, ?_⟩, grown _⟩
    · rw [← hK]
      apply List.ext_getElem? 
      intro i
      simp only [List.getElem?_map, Array.getElem?_toList, Array.getElem?_modify]
      by_cases hi : j = i
      · subst hi; rw [if_pos rfl, hj]; simp [h3]
      · rw [if_neg hi]
    · intro e he
      obtain ⟨i, hi, rfl⟩ := List.mem_iff_getElem.1 he
      simp only [Array.getElem_toList, Array.getElem_modify]
      split
      · rfl
      · exact hV _ (by simp)
variable {ops : Array Oper} {rest : List Oper} {o : Oper} {a : Act} {Q : Exit → Act → World → Prop}
theorem wpList_look_set (hg : o.guard = none) (m x : Operand) (hop : o.op = Op.lookup t m x false) (ht : P.underlying t = some (.map k e)) (hk : P.underlying k = some (.int .i64)) (hz : (zeroValue e).run P w = .ok (.bool false) w)
    (hm : a.eval m = .map (some b)) (h : MapS w b D) (hx : a.eval x = .int .i64 y) {d : Bool} (hd : decide (y ∈ D) = d)
    (hK : wpList P ops Q rest (a.put o.dst (.bool d)) w) : wpList P ops Q (o :: rest) a w := by
  refine wpList_plain hg fun K' hK' => ?_
  have hrun := run_look_set (y := y) h ht hk hz
  rw [hd] at hrun
  unfold Oper.wp
  simp [execOp, hop, hm, hx, hrun, Result.andThen]
  exact hK' _ _ hK
theorem wpList_put_set (hg : o.guard = none) (m x v : Operand) (hop : o.op = Op.mapUpdate t m x v) (ht : P.underlying t = some (.map k e)) (hk : P.underlying k = some (.int .i64))
    (hm : a.eval m = .map (some b)) (h : MapS w b D) (hx : a.eval x = .int .i64 y) (hv : a.eval v = .bool true)
    (hK : ∀ w', MapS w' b (if y ∈ D then D else D ++ [y]) → w.grownBy w' (some b) → wpList P ops Q rest (a.put o.dst undef) w') : wpList P ops Q (o :: rest) a w := by
  refine wpList_plain hg fun K' hK' => ?_
  obtain ⟨w', hrun, r1, r2⟩ := run_put_set (y := y) h ht hk
  unfold Oper.wp
  simp [execOp, hop, hm, hx, hv, hrun, Result.andThen]
  exact hK' _ _ (hK w' r1 r2)
end
theorem zeroBool (w : World) : (zeroValue 4).run Try.prog w = .ok (.bool false) w := by kernel_rfl
/-- What was seen, after so many. -/
structure Met (l D : List Int) (out : Int) : Prop where
  nd : D.Nodup
  mem : ∀ y, y ∈ D ↔ y ∈ l
  cnt : out + (D.length : Int) = (l.length : Int)
theorem Met.nil : Met [] [] 0 := ⟨List.nodup_nil, by simp, rfl⟩
theorem Met.old {l D : List Int} {out y : Int} (h : Met l D out) (hy : y ∈ D) : Met (l ++ [y]) (if y ∈ D then D else D ++ [y]) (out + 1) := by
  rw [if_pos hy]
  refine ⟨h.nd, fun z => ?_, by have := h.cnt; simp; omega⟩
  rw [h.mem z, List.mem_append, List.mem_singleton]
  exact ⟨.inl, fun hz => hz.elim id fun e => e ▸ (h.mem y).1 hy⟩
theorem Met.new {l D : List Int} {out y : Int} (h : Met l D out) (hy : ¬ y ∈ D) : Met (l ++ [y]) (if y ∈ D then D else D ++ [y]) out := by
  rw [if_neg hy]
  refine ⟨?_, fun z => ?_, by have := h.cnt; simp; omega⟩
  · rw [List.nodup_append]
    refine ⟨h.nd, by simp, ?_⟩
    intro a ha b hb e
    simp at hb
    subst hb; subst e
    exact hy ha
  · rw [List.mem_append, List.mem_append, h.mem z]
set_option maxRecDepth 100000 in
set_option maxHeartbeats 3200000 in
theorem MeetingsOf_any (A : Option Addr) (c : Nat) (x : List Int) (salt n : Nat) (w : World) (hx : RdL (Value.int .i64) w A x) (hn : x.length ≤ 256) (hbd : ∀ y ∈ x, 0 ≤ y ∧ y ≤ 4294967295) (hs : salt < 4294967296) (hq : keysQ x = true) (hn0 : 1 ≤ n) (hn1 : n ≤ 256) :
    Calls Try.prog 56 #[.slice A x.length c, .int .i64 salt, .int .i64 n] w fun e w' => ∃ D out, e = .returned (.tuple #[.int .i64 out, .bool true]) ∧ Met (spreadP x salt n) D out ∧ Below w.heap.size w w' := by
  have K : Hid (Calls Try.prog 65 #[.slice A x.length c] w fun e w' => e = .returned (.bool true) ∧ w = w') := hq ▸ AreKeys_q A c x w hx (by omega)
  have X := hid hx
  have BD := hid hbd
  have h2 : inB (salt : Int) 0 4294967295 = true := inB_iff.2 (by omega)
  have h3 : inB (n : Int) 1 4294967296 = true := inB_iff.2 (by omega)
  have hmm := @run_makeMap Try.prog
  clear hx hbd hq
  go_enter Try.func56, Try.ntmps56
  go_wp2_with (first | (go_at_call 63; refine (IsKey_any _ _).mono ?_; rintro e w' ⟨rfl, rfl⟩) | (go_at_call 65; with_reducible refine K.out.mono ?_; rintro e w' ⟨rfl, rfl⟩) | (go_at_call 97; refine (within_any _ _ _ _).mono ?_; rintro e w' ⟨rfl, rfl⟩))
  clear K h2 h3 hmm
  have M0 := hid (mapS_made w)
  have S0 : Hid (Below w.heap.size w (w.alloc (.map #[] 0))) := below_a1 _ _
  go_loopw [9, 29] (fun u i wr => ∃ (k : Nat) (D : List Int) (out : Int), k ≤ x.length ∧ u = .int .i64 out ∧ i = .int .i64 k ∧ 0 ≤ out ∧ out ≤ (k : Int) ∧ Hid (Met ((spreadP x salt n).take k) D out) ∧ Hid (MapS wr w.heap.size D) ∧ Hid (Below w.heap.size w wr)) (fun _ i _ => x.length - (intOf i).toNat)
  case atStart => exact ⟨0, [], 0, Nat.zero_le _, rfl, rfl, by omega, by omega, Met.nil, M0, S0⟩
  case round =>
    obtain ⟨k, D, out, hk, rfl, rfl, ho0, ho1, hM, hS, hB⟩ := hrel
    by_cases hlt : k < x.length
    · have hi : (k : Int) < (x.length : Int) := by omega
      obtain ⟨b, o, y, rfl, hcy, hyk⟩ := (X.out.below hB.out).at_ hlt
      have hyb := BD.out y (List.mem_of_getElem? hyk.out)
      obtain ⟨yn, rfl⟩ := Int.eq_ofNat_of_zero_le hyb.1
      have hyl : yn < 4294967296 := by omega
      obtain ⟨m, hme⟩ : ∃ m, m = belowN yn salt n := ⟨_, rfl⟩
      have C1 : Hid (∀ w, Calls Try.prog 110 #[.int .i64 (yn : Int), .int .i64 (salt : Int), .int .i64 (n : Int)] w fun e w'' => e = .returned (.int .i64 m) ∧ w = w'') := fun w => hme ▸ ibelow_any yn salt n w hyl (by omega) (by omega)
      have hsp : Hid ((spreadP x salt n).take (k + 1) = (spreadP x salt n).take k ++ [(m : Int)]) := by
        show _ = _
        have h1 : (spreadP x salt n)[k]? = some (m : Int) := by
          rw [spreadP_at hlt, getD_of hyk, hme]
          simp
        rw [List.take_add_one, h1]; rfl
      clear hme hyb
      by_cases hd : (m : Int) ∈ D
      · have hD : Hid (decide ((m : Int) ∈ D) = true) := decide_eq_true hd
        have hM1 : Hid (Met ((spreadP x salt n).take (k + 1)) (if (m : Int) ∈ D then D else D ++ [(m : Int)]) (out + 1)) := by
          rw [show Hid _ = Met _ _ _ from rfl, hsp.out]; exact hM.out.old hd
        clear hd
        go_wp2_with (first | (go_at_call 110; with_reducible refine (C1.out _).mono ?_; rintro e w' ⟨rfl, rfl⟩) | (at_lookup; refine wpList_look_set rfl _ _ rfl Try.underlying107 Try.underlying2 (zeroBool _) rfl hS.out rfl hD.out ?_) | (at_mapUpdate; refine wpList_put_set rfl _ _ _ rfl Try.underlying107 Try.underlying2 rfl hS.out rfl rfl ?_; intro w1 hS1 hg1))
        have S1 := hid hS1
        have B1 := hid (hB.out.grown hg1 hB.out.size (fun j hj => by injection hj with hj; omega))
        clear hS1 hg1
        go_wp2
        exact ⟨⟨k + 1, _, out + 1, by omega, by go_num, by go_num, by omega, by omega, hM1, S1, B1⟩, by simp [intOf]; omega⟩
      · have hD : Hid (decide ((m : Int) ∈ D) = false) := decide_eq_false hd
        have hM1 : Hid (Met ((spreadP x salt n).take (k + 1)) (if (m : Int) ∈ D then D else D ++ [(m : Int)]) out) := by
          rw [show Hid _ = Met _ _ _ from rfl, hsp.out]; exact hM.out.new hd
        clear hd
        go_wp2_with (first | (go_at_call 110; with_reducible refine (C1.out _).mono ?_; rintro e w' ⟨rfl, rfl⟩) | (at_lookup; refine wpList_look_set rfl _ _ rfl Try.underlying107 Try.underlying2 (zeroBool _) rfl hS.out rfl hD.out ?_) | (at_mapUpdate; refine wpList_put_set rfl _ _ _ rfl Try.underlying107 Try.underlying2 rfl hS.out rfl rfl ?_; intro w1 hS1 hg1))
        have S1 := hid hS1
        have B1 := hid (hB.out.grown hg1 hB.out.size (fun j hj => by injection hj with hj; omega))
        clear hS1 hg1
        go_wp2
        exact ⟨⟨k + 1, _, out, by omega, rfl, by go_num, by omega, by omega, hM1, S1, B1⟩, by simp [intOf]; omega⟩
    · have hi : ¬ (k : Int) < (x.length : Int) := by omega
      obtain rfl : k = x.length := by omega
      have hM1 : Hid (Met (spreadP x salt n) D out) := by
        have := hM.out
        rw [List.take_of_length_le (by rw [spreadP_length]; exact Nat.le_refl _)] at this
        exact this
      go_wp2
      go_ret2
      exact ⟨D, out, rfl, hM1.out, hB.out⟩
end Go.Proofs.Ytmmolicodlmlkaa
namespace Go.Proofs.Ytmmolicodlmlkaa

/-- f, m times. -/
def iterN (f : Nat → Nat) : Nat → Nat → Nat
  | 0, k => k
  | m + 1, k => f (iterN f m k)
theorem iterN_lt {f : Nat → Nat} {N : Nat} (hf : ∀ x, x < N → f x < N) {k : Nat} (hk : k < N) (m : Nat) : iterN f m k < N := by
  induction m with
  | zero => exact hk
  | succ m ih => exact hf _ ih
/-- p is the first below n that f leads to from k. -/
def Lands (f : Nat → Nat) (n k p : Nat) : Prop := ∃ m, iterN f (m + 1) k = p ∧ p < n ∧ ∀ i, i < m → n ≤ iterN f (i + 1) k
/-- What leads forth leads back. -/
theorem Lands.back {f g : Nat → Nat} {N n k p : Nat} (hf : ∀ x, x < N → f x < N) (hg : ∀ x, x < N → g (f x) = x) (hn : n ≤ N) (hk : k < n) (h : Lands f n k p) : Lands g n p k := by
  obtain ⟨m, rfl, l1, a1⟩ := h
  have key : ∀ i, i ≤ m + 1 → iterN g i (iterN f (m + 1) k) = iterN f (m + 1 - i) k := by
    intro i
    induction i with
    | zero => intro _; rfl
    | succ i ih =>
      intro hi
      show g _ = _
      rw [ih (by omega), show m + 1 - i = (m + 1 - (i + 1)) + 1 by omega]
      exact hg _ (iterN_lt hf (by omega) _)
  refine ⟨m, ?_, hk, fun i hi => ?_⟩
  · rw [key (m + 1) (Nat.le_refl _), Nat.sub_self]; rfl
  · rw [key (i + 1) (by omega), show m + 1 - (i + 1) = (m - i - 1) + 1 by omega]
    exact a1 _ (by omega)

/-! ### The rounds -/
section
variable (hash : Nat → Nat → Nat) (s M : Nat)
end
section
variable {hash : Nat → Nat → Nat} {s d : Nat}
end

/-! ### The greatest -/
end Go.Proofs.Ytmmolicodlmlkaa
namespace Go.Proofs.Ytmmolicodlmlkaa
open Go.RowKit
set_option linter.unusedVariables false
set_option linter.unusedSimpArgs false

theorem HashOf_any (k s : Nat) (w : World) (hk : k < 4294967296) (hs : s < 4294967296) :
    Calls Try.prog 58 #[.int .i64 k, .int .i64 s] w fun e w' => e = .returned (.tuple #[.int .i64 (hashN k s), .bool true]) ∧ w = w' := by
  have h1 : inB (k : Int) 0 4294967295 = true := inB_iff.2 (by omega)
  have h2 : inB (s : Int) 0 4294967295 = true := inB_iff.2 (by omega)
  go_enter Try.func58, Try.ntmps58
  go_wp2_with (first | (go_at_call 63; refine (IsKey_any _ _).mono ?_; rintro e w' ⟨rfl, rfl⟩) | (go_at_call 111; refine (ihash_any k s _ hk hs).mono ?_; rintro e w' ⟨rfl, rfl⟩))
  go_ret2
  exact ⟨rfl, rfl⟩
end Go.Proofs.Ytmmolicodlmlkaa
namespace Go.Proofs.Ytmmolicodlmlkaa
open Go.RowKit Ieee
set_option linter.unusedVariables false
set_option linter.unusedSimpArgs false

theorem log2_sh {M d : Nat} (h1 : 8388608 ≤ M) (h2 : M < 16777216) : (M * 2 ^ d).log2 = 23 + d := by
  have h0 : M * 2 ^ d ≠ 0 := Nat.mul_ne_zero (by omega) (Nat.ne_of_gt (Nat.pow_pos (by omega)))
  refine (Nat.log2_eq_iff h0).2 ⟨?_, ?_⟩
  · rw [Nat.pow_add]; exact Nat.mul_le_mul_right _ h1
  · rw [show 23 + d + 1 = 24 + d by omega, Nat.pow_add]; exact Nat.mul_lt_mul_of_pos_right h2 (Nat.pow_pos (by omega))
theorem cut_exact {M d : Nat} (h1 : 8388608 ≤ M) (h2 : M < 16777216) : Toward.even.cut false (M * 2 ^ d) d = M := by
  unfold Toward.cut
  have hm : min d ((M * 2 ^ d).log2 + 2) = d := by rw [log2_sh h1 h2]; omega
  have hp : 0 < 2 ^ d := Nat.pow_pos (by omega)
  simp only [hm, Nat.one_shiftLeft, Nat.mul_div_cancel _ hp, Nat.mul_mod_left]
  simp
/-- The word of a number whose digits are all there. -/
def wN (M : Nat) (e : Int) : Nat := (e + 149).toNat * 8388608 + M
theorem nearest_shift {M d : Nat} {p : Int} (h1 : 8388608 ≤ M) (h2 : M < 16777216) (h3 : -149 ≤ p + d) (h4 : p + d ≤ 0) : single.nearest false (M * 2 ^ d) p = wN M (p + d) := by
  have hl : single.leastPlace = -149 := by decide
  have hb : single.binade = 8388608 := by decide
  have hi : single.infRung = 2139095040 := by decide
  have hf : single.fractionBits = 23 := rfl
  have h0 : M * 2 ^ d ≠ 0 := Nat.mul_ne_zero (by omega) (Nat.ne_of_gt (Nat.pow_pos (by omega)))
  unfold Format.nearest
  rw [if_neg h0]
  simp only [hl, hb, hi, hf, log2_sh h1 h2]
  have hmax : max (p + ((23 + d : Nat) : Int) - ((23 : Nat) : Int)) (-149) = p + d := by omega
  rw [hmax]
  have e1 : (p - (p + (d : Int))).toNat = 0 := by omega
  have e2 : (p + (d : Int) - p).toNat = d := by omega
  have e3 : p + (d : Int) - -149 = p + d + 149 := by omega
  rw [e1, e2, e3, Nat.shiftLeft_zero, cut_exact h1 h2, word_false]
  obtain ⟨r1, _⟩ := rung_small (L := (p + (d : Int) + 149).toNat) (by omega) h1 h2
  exact r1
theorem read_wN {M : Nat} {e : Int} (h1 : 8388608 ≤ M) (h2 : M < 16777216) (h3 : -149 ≤ e) (h4 : e ≤ 0) : single.read (wN M e) = .number false M e := by
  obtain ⟨r1, r2, r3, r4, r5⟩ := rung_small (L := (e + 149).toNat) (by omega) h1 h2
  unfold wN
  rw [read_single _ r2 r3, r4, r5]
  have q1 : 8388608 + (M - 8388608) = M := by omega
  have q2 : (-149 : Int) + (((e + 149).toNat + 1 - 1 : Nat) : Int) = e := by omega
  rw [q1, q2]
theorem ofInt_wN {n : Nat} (h0 : n ≠ 0) (hn : n < 16777216) : ∃ M e, 8388608 ≤ M ∧ M < 16777216 ∧ -23 ≤ e ∧ e ≤ 0 ∧ floatOfInt .f32 (n : Int) = wN M e := by
  have hlog := log2_lt_of (k := 24) (m := n) (by omega) (by omega)
  obtain ⟨hK1, hK2⟩ := shl_log h0 hn
  obtain ⟨m, e, hr, h1, _⟩ := ofInt_read hn
  refine ⟨n <<< (23 - n.log2), (n.log2 : Int) - 23, hK1, hK2, by omega, by omega, ?_⟩
  have hfo : floatOfInt .f32 (n : Int) = single.nearest false n 0 := by
    show single.nearest (decide ((n : Int) < 0)) (n : Int).natAbs 0 = _
    rw [show decide ((n : Int) < 0) = false by simp]
    rfl
  rw [hfo]
  have hl : single.leastPlace = -149 := by decide
  have hb : single.binade = 8388608 := by decide
  have hi : single.infRung = 2139095040 := by decide
  have hf : single.fractionBits = 23 := rfl
  obtain ⟨r1, _⟩ := rung_small (L := n.log2 + 126) (by omega) hK1 hK2
  unfold Format.nearest
  rw [if_neg h0]
  simp only [hl, hb, hi, hf]
  have hmax : max ((0 : Int) + (n.log2 : Int) - ((23 : Nat) : Int)) (-149) = (n.log2 : Int) - 23 := by omega
  rw [hmax]
  have e1 : ((n.log2 : Int) - 23 - 0).toNat = 0 := by omega
  have e2 : (0 - ((n.log2 : Int) - 23)).toNat = 23 - n.log2 := by omega
  have e8 : ((n.log2 : Int) - 23 - -149).toNat = n.log2 + 126 := by omega
  rw [e1, e2, cut_even_zero, e8, word_false, r1]
  unfold wN
  congr 2
  omega
theorem mul_wN {M y : Nat} {e j : Int} (h1 : 8388608 ≤ M) (h2 : M < 16777216) (h3 : -149 ≤ e) (h4 : e ≤ 0) (hy : single.read y = .number false 8388608 j) (h5 : -149 ≤ e + j + 23) (h6 : e + j + 23 ≤ 0) : floatBits .mul .f32 (wN M e) y = some (wN M (e + j + 23)) := by
  show single.mul (wN M e) y = _
  unfold Format.mul
  rw [read_wN h1 h2 h3 h4, hy]
  simp only [Datum.product, Option.map_some, Bool.xor_self]
  show some (single.nearest false (M * 2 ^ 23) (e + j)) = _
  rw [nearest_shift h1 h2 (by omega) (by omega)]
  rfl
theorem cmp_ge {x y : Int} (h : y ≤ x) : (some (compare x y) == some Ordering.lt) = false := by
  have h1 : ¬ x < y := by omega
  simp only [compare, compareOfLessAndEq, if_neg h1]
  split <;> rfl
theorem cmp_lt {x y : Int} (h : x < y) : compare x y = .lt := by simp only [compare, compareOfLessAndEq, if_pos h]
theorem order_same {b : Nat} (h : ∃ m e, single.read b = .number false m e) : single.order b b = some .eq := by
  obtain ⟨m, e, h⟩ := h
  unfold Format.order
  rw [h]
  simp only [Datum.order, Int.min_self, Int.sub_self]
  simp
/-- The share of a hash. -/
def shareN (n : Nat) : Nat := (floatBits .mul .f32 (floatOfInt .f32 (n : Int)) 864026624).getD 0
structure ShareOk (n : Nat) : Prop where
  is : floatBits .mul .f32 (floatOfInt .f32 (n : Int)) 864026624 = some (shareN n)
  pos : (single.order (shareN n) 0 == some .lt) = false
  one : single.order (shareN n) 1065353216 = some .lt
  back : ∃ q, floatBits .mul .f32 (shareN n) 1266679808 = some q ∧ (single.order q (floatOfInt .f32 (n : Int)) == some .eq) = true
theorem share_ok {n : Nat} (hn : n < 16777216) : ShareOk n := by
  by_cases h0 : n = 0
  · subst h0
    refine ⟨by decide +kernel, by decide +kernel, by decide +kernel, 0, by decide +kernel, by decide +kernel⟩
  · obtain ⟨M, e, h1, h2, h3, h4, hw⟩ := ofInt_wN h0 hn
    have r1 : single.read 864026624 = .number false 8388608 (-47) := by decide +kernel
    have r2 : single.read 1266679808 = .number false 8388608 1 := by decide +kernel
    have r3 : single.read 1065353216 = .number false 8388608 (-23) := by decide +kernel
    have r0 : single.read 0 = .number false 0 (-149) := by decide +kernel
    have m1 := mul_wN (j := -47) h1 h2 (by omega) h4 r1 (by omega) (by omega)
    have hs : shareN n = wN M (e + -47 + 23) := by unfold shareN; rw [hw, m1]; rfl
    have m2 := mul_wN (e := e + -47 + 23) (j := 1) h1 h2 (by omega) (by omega) r2 (by omega) (by omega)
    have rs := read_wN (e := e + -47 + 23) h1 h2 (by omega) (by omega)
    refine ⟨by rw [hs, hw, m1], ?_, ?_, wN M (e + -47 + 23 + 1 + 23), by rw [hs, m2], ?_⟩
    · rw [hs]
      unfold Format.order
      rw [rs, r0]
      show (some (compare (signed false M _) (signed false 0 _)) == some Ordering.lt) = false
      refine cmp_ge ?_
      simp only [signed, Bool.false_eq_true, if_false, Nat.zero_shiftLeft]
      exact Int.ofNat_le.2 (Nat.zero_le _)
    · rw [hs]
      unfold Format.order
      rw [rs, r3]
      have hmin : min (e + -47 + 23) (-23) = e + -47 + 23 := by omega
      show some (compare (signed false M (e + -47 + 23 - min (e + -47 + 23) (-23)).toNat) (signed false 8388608 (-23 - min (e + -47 + 23) (-23)).toNat)) = some Ordering.lt
      rw [hmin, cmp_lt]
      simp only [signed, Bool.false_eq_true, if_false]
      have e1 : (e + -47 + 23 - (e + -47 + 23)).toNat = 0 := by omega
      have e2 : (-23 - (e + -47 + 23)).toNat = (-e).toNat + 1 := by omega
      rw [e1, e2, Nat.shiftLeft_zero, Nat.shiftLeft_eq, Nat.pow_succ]
      have : 0 < 2 ^ (-e).toNat := Nat.pow_pos (by omega)
      have h9 : 8388608 * (1 * 2) ≤ 8388608 * (2 ^ (-e).toNat * 2) := Nat.mul_le_mul_left _ (Nat.mul_le_mul_right _ this)
      omega
    · rw [hw, show e + -47 + 23 + 1 + 23 = e by omega, order_same ⟨M, e, read_wN h1 h2 (by omega) h4⟩]
      rfl
theorem share_any (k s : Nat) (w : World) (hk : k < 4294967296) (hs : s < 4294967296) :
    Calls Try.prog 113 #[.int .i64 k, .int .i64 s] w fun e w' => e = .returned (.float .f32 (shareN (hashN k s / 256))) ∧ w = w' := by
  obtain ⟨h, hhe⟩ : ∃ h, h = hashN k s := ⟨_, rfl⟩
  have hlt : h < 4294967296 := hhe ▸ hashN_lt k s
  have H : Hid (Calls Try.prog 111 #[.int .i64 k, .int .i64 s] w fun e w' => e = .returned (.int .i64 h) ∧ w = w') := hhe ▸ ihash_any k s w hk hs
  rw [← hhe]
  clear hhe
  have hq : ∀ t w, (binOp .mul t (.float .f32 (floatOfInt .f32 ((h : Int) / 256))) (.float .f32 864026624)).run Try.prog w = .ok (.float .f32 (shareN (h / 256))) w := fun t w => run_float_arith w .mul t .f32 _ _ _ (by have := (share_ok (n := h / 256) (by omega)).is; rw [Int.natCast_ediv] at this; exact this)
  go_enter Try.func113, Try.ntmps113
  go_wp2_with (first | (go_at_call 111; with_reducible refine H.out.mono ?_; rintro e w' ⟨rfl, rfl⟩) | simp only [hq])
  go_ret
  exact ⟨rfl, rfl⟩
theorem ShareHash_any (k s : Nat) (w : World) (hk : k < 4294967296) (hs : s < 4294967296) :
    Calls Try.prog 61 #[.int .i64 k, .int .i64 s] w fun e w' => e = .returned (.tuple #[.float .f32 (shareN (hashN k s / 256)), .bool true]) ∧ w = w' := by
  have h1 : inB (k : Int) 0 4294967295 = true := inB_iff.2 (by omega)
  have h2 : inB (s : Int) 0 4294967295 = true := inB_iff.2 (by omega)
  go_enter Try.func61, Try.ntmps61
  go_wp2_with (first | (go_at_call 63; refine (IsKey_any _ _).mono ?_; rintro e w' ⟨rfl, rfl⟩) | (go_at_call 113; with_reducible refine (share_any k s _ hk hs).mono ?_; rintro e w' ⟨rfl, rfl⟩))
  go_ret2
  exact ⟨rfl, rfl⟩
end Go.Proofs.Ytmmolicodlmlkaa
namespace Go.Proofs.Ytmmolicodlmlkaa
open Go.RowKit Ieee
set_option linter.unusedVariables false

/-- What an operation yields. -/
def fop (op : BinOp) (x y : Nat) : Nat := (floatBits op .f32 x y).getD 0
theorem fop_eq {op : BinOp} {x y r : Nat} (h : floatBits op .f32 x y = some r) : fop op x y = r := by unfold fop; rw [h]; rfl
/-- How far a count is from what is expected. -/
def chiZ (c : List Int) (e k : Nat) : Nat := fop .sub (floatOfInt .f32 (c.getD k 0)) e
/-- The sum over the first counts. -/
def chiTo (c : List Int) (e : Nat) : Nat → Nat
  | 0 => 0
  | k + 1 => fop .add (chiTo c e k) (fop .quo (fop .mul (chiZ c e k) (chiZ c e k)) e)
theorem sg_zero : Sg single false 0 := .inl ⟨0, -149, read_low 0 (by omega)⟩
theorem chi_ops {c : List Int} {e k : Nat} {a b : Int} (he : Nm e a b) (h0 : 0 ≤ c.getD k 0) (h1 : c.getD k 0 ≤ 1048576) (hs : Sg single false (chiTo c e k)) :
    floatBits .sub .f32 (floatOfInt .f32 (c.getD k 0)) e = some (chiZ c e k) ∧
    floatBits .mul .f32 (chiZ c e k) (chiZ c e k) = some (fop .mul (chiZ c e k) (chiZ c e k)) ∧
    floatBits .quo .f32 (fop .mul (chiZ c e k) (chiZ c e k)) e = some (fop .quo (fop .mul (chiZ c e k) (chiZ c e k)) e) ∧
    floatBits .add .f32 (chiTo c e k) (fop .quo (fop .mul (chiZ c e k) (chiZ c e k)) e) = some (chiTo c e (k + 1)) ∧ Sg single false (chiTo c e (k + 1)) := by
  obtain ⟨n, hn⟩ := Int.eq_ofNat_of_zero_le h0
  obtain ⟨m, j, hm, _⟩ := ofInt_read (n := n) (by omega)
  obtain ⟨me, je, hre, hm1, _⟩ := he
  obtain ⟨z, hz, hzn⟩ := sub_nn (x := floatOfInt .f32 (c.getD k 0)) (y := e) ⟨false, m, j, by rw [hn]; exact hm⟩ ⟨false, me, je, hre⟩
  have ez : chiZ c e k = z := fop_eq hz
  rw [ez]
  obtain ⟨q, hq, hqs⟩ := sq_pos hzn
  rw [fop_eq hq]
  obtain ⟨d, hd, hds⟩ := quo_sg (t := false) hqs ⟨me, je, hre, by omega⟩
  rw [fop_eq hd]
  obtain ⟨r, hr, hrs⟩ := add_pos hs (show Sg single false d from hds)
  have er : chiTo c e (k + 1) = r := by
    rw [chiTo, ez, fop_eq hq, fop_eq hd]
    exact fop_eq hr
  rw [er]
  exact ⟨hz, hq, hd, hr, hrs⟩
theorem chi_sg {c : List Int} {e : Nat} {a b : Int} (he : Nm e a b) (hc : ∀ y ∈ c, 0 ≤ y ∧ y ≤ 1048576) : ∀ k, k ≤ c.length → Sg single false (chiTo c e k) := by
  intro k
  induction k with
  | zero => intro _; exact sg_zero
  | succ k ih =>
    intro hk
    have hm : c.getD k 0 ∈ c := by
      rw [List.getD_eq_getElem?_getD, List.getElem?_eq_getElem (by omega), Option.getD_some]
      exact List.getElem_mem _
    have hb := hc _ hm
    exact (chi_ops he hb.1 hb.2 (ih (by omega))).2.2.2.2
end Go.Proofs.Ytmmolicodlmlkaa
namespace Go.Proofs.Ytmmolicodlmlkaa
open Go.RowKit Ieee
set_option linter.unusedVariables false
set_option linter.unusedSimpArgs false

/-- What is expected of a place. -/
def chiE (len n : Nat) : Nat := fop .quo (floatOfInt .f32 (len : Int)) (floatOfInt .f32 (n : Int))
theorem chiE_spec {len n : Nat} (h1 : 0 < len) (h2 : len ≤ 256) (h3 : 1 ≤ n) (h4 : n ≤ 256) : floatBits .quo .f32 (floatOfInt .f32 (len : Int)) (floatOfInt .f32 (n : Int)) = some (chiE len n) ∧ ∃ a b, Nm (chiE len n) a b := by
  have hl : len.log2 ≤ 8 := log2_le_of (k := 8) (by omega)
  have hn : n.log2 ≤ 8 := log2_le_of (k := 8) (by omega)
  obtain ⟨r, hr, hrn⟩ := quo_nm (ofInt_nm (n := len) (by omega) (by omega)) (ofInt_nm (n := n) (by omega) (by omega)) (by omega) (by omega)
  have e : chiE len n = r := fop_eq hr
  rw [e]
  exact ⟨hr, _, _, hrn⟩
/-- What ChiOfKeys returns. -/
def pChiOfKeys (x : List Int) (salt n : Int) : Nat × Bool :=
  if (vSpread x salt n && !decide ((x.length : Int) < 1)) = true then (chiTo (spreadL x salt.toNat n.toNat) (chiE x.length n.toNat) n.toNat, true) else (0, false)
theorem spreadL_bd {x : List Int} {salt n : Nat} (h : x.length ≤ 256) : ∀ y ∈ spreadL x salt n, 0 ≤ y ∧ y ≤ 1048576 := by
  have h2 : ∀ (l z : List Int), (∀ y ∈ z, 0 ≤ y) → ∀ y ∈ addAt 1 z l, 0 ≤ y := by
    intro l
    induction l with
    | nil => intro z hz y hy; exact hz y hy
    | cons p l ih =>
      intro z hz y hy
      refine ih _ (fun t ht => ?_) y hy
      rcases List.mem_or_eq_of_mem_set ht with h | h
      · exact hz t h
      · subst h
        have h3 : 0 ≤ z.getD p.toNat 0 := by
          rw [List.getD_eq_getElem?_getD]
          cases h4 : z[p.toNat]? with
          | none => exact Int.le_refl _
          | some u => exact hz u (List.mem_of_getElem? h4)
        omega
  intro y hy
  have h5 := h2 (spreadP x salt n) (List.replicate n 0) (fun z hz => by obtain ⟨_, rfl⟩ := List.mem_replicate.1 hz; exact Int.le_refl _) y hy
  have h6 := take_bound (l := spreadP x salt n) (n := n) (k := x.length) (by rw [spreadP_length]; omega) y (by rw [List.take_of_length_le (by rw [spreadP_length]; exact Nat.le_refl _)]; exact hy)
  omega
theorem vSpread_iff {x : List Int} {salt n : Int} (h : vSpread x salt n = true) : x.length ≤ 256 ∧ (0 ≤ salt ∧ salt ≤ 4294967295) ∧ (1 ≤ n ∧ n ≤ 256) := by
  simp only [vSpread, Bool.and_eq_true] at h
  exact ⟨(keysB_iff h.1.1).1, inB_iff.1 h.1.2, inB_iff.1 h.2⟩
set_option maxHeartbeats 1600000 in
theorem iSpread_no (A : Option Addr) (c : Nat) (x : List Int) (salt n : Int) (w : World) (hx : RdL (Value.int .i64) w A x) (hn : x.length ≤ 1048576) (hv : vSpread x salt n = false) :
    Calls Try.prog 55 #[.slice A x.length c, .int .i64 salt, .int .i64 n] w fun e w' => e = .returned (.tuple #[.slice none 0 0, .bool false]) ∧ w = w' := by
  have X := hid hx
  clear hx
  have key : ∀ u0 u1 u2 : Bool, keysB x = u0 → inB salt 0 4294967295 = u1 → inB n 1 256 = u2 → (u0 && u1 && u2) = false →
      Calls Try.prog 55 #[.slice A x.length c, .int .i64 salt, .int .i64 n] w fun e w' => e = .returned (.tuple #[.slice none 0 0, .bool false]) ∧ w = w' := by
    intro u0 u1 u2 h0 h1 h2 hno
    have K : Hid (Calls Try.prog 65 #[.slice A x.length c] w fun e w' => e = .returned (.bool u0) ∧ w = w') := h0 ▸ AreKeys_any A c x w X.out hn
    clear h0
    cases u0
    case' true =>
      cases u1
      case' true => cases u2
    all_goals
      first
      | (exfalso; revert hno; decide)
      | (clear hno
         go_enter Try.func55, Try.ntmps55
         go_wp2_with (go_at_call 65; with_reducible refine K.out.mono ?_; rintro e w' ⟨rfl, rfl⟩)
         try go_wp2_with (first | (go_at_call 63; refine (IsKey_any _ _).mono ?_; rintro e w' ⟨rfl, rfl⟩) | (go_at_call 97; refine (within_any _ _ _ _).mono ?_; rintro e w' ⟨rfl, rfl⟩))
         go_ret2
         exact ⟨rfl, rfl⟩)
  exact key _ _ _ rfl rfl rfl hv
set_option maxRecDepth 100000 in
set_option maxHeartbeats 1600000 in
theorem iChiOfKeys_any (A : Option Addr) (c : Nat) (x : List Int) (salt n : Int) (w : World) (hx : RdL (Value.int .i64) w A x) (hn : x.length ≤ 1048576) (we : ∀ y ∈ x, W64 y) (hsalt : W64 salt) (hnn : W64 n) :
    Calls Try.prog 57 #[.slice A x.length c, .int .i64 salt, .int .i64 n] w fun e w' => e = .returned (.tuple #[.float .f32 (pChiOfKeys x salt n).1, .bool (pChiOfKeys x salt n).2]) ∧ Below w.heap.size w w' := by
  have X := hid hx
  clear hx we hsalt hnn
  cases hv : vSpread x salt n with
  | false =>
    have hp : Hid (pChiOfKeys x salt n = (0, false)) := by show _ = _; unfold pChiOfKeys; rw [hv, Bool.false_and, if_neg (by simp)]
    have HV := hid hv
    clear hv
    go_enter Try.func57, Try.ntmps57
    go_wp2_with fail
    refine (iSpread_no A c x salt n _ X.out hn HV.out).mono ?_
    rintro e w1 ⟨rfl, rfl⟩
    go_wp2
    go_ret2
    exact ⟨by rw [hp.out]; rfl, Below.refl _ _⟩
  | true =>
  obtain ⟨h256, ⟨hs1, hs2⟩, ⟨hn1, hn2⟩⟩ := vSpread_iff hv
  obtain ⟨salt, rfl⟩ := Int.eq_ofNat_of_zero_le hs1
  obtain ⟨n, rfl⟩ := Int.eq_ofNat_of_zero_le (show 0 ≤ n by omega)
  by_cases hl : x.length = 0
  · have hp : Hid (pChiOfKeys x salt n = (0, false)) := by show _ = _; unfold pChiOfKeys; rw [decide_eq_true (by omega)]; simp
    have HV := hid hv
    have hl1 : (x.length : Int) < 1 := by omega
    have hl2 : ((x.length : Int) == 0) = true := beq_iff_eq.2 (by omega)
    clear hv hl
    go_enter Try.func57, Try.ntmps57
    go_wp2_with fail
    refine (iSpread_yes A c x salt n _ X.out hn HV.out).mono ?_
    rintro e w1 ⟨A1, c1, rfl, ho, hb⟩
    have S1 := hid hb
    clear ho hb
    go_wp2
    go_ret2
    exact ⟨by rw [hp.out]; rfl, S1.out⟩
  · have hl1 : ¬ (x.length : Int) < 1 := by omega
    have hl2 : ((x.length : Int) == 0) = false := beq_eq_false_iff_ne.2 (by omega)
    have hp : Hid (pChiOfKeys x salt n = (chiTo (spreadL x salt n) (chiE x.length n) n, true)) := by show _ = _; unfold pChiOfKeys; rw [hv, decide_eq_false hl1, if_pos (by rfl), Int.toNat_natCast, Int.toNat_natCast]
    obtain ⟨hqe, ea, eb, hem⟩ := chiE_spec (len := x.length) (n := n) (by omega) h256 (by omega) (by omega)
    have hq0 : ∀ t w, (binOp .quo t (.float .f32 (floatOfInt .f32 (x.length : Int))) (.float .f32 (floatOfInt .f32 (n : Int)))).run Try.prog w = .ok (.float .f32 (chiE x.length n)) w := fun t w => run_float_arith w .quo t .f32 _ _ _ hqe
    have BD := hid (spreadL_bd (x := x) (salt := salt) (n := n) h256)
    have SL := hid (spreadL_length x salt n)
    have EM := hid hem
    have CS := hid (chi_sg hem (spreadL_bd (x := x) (salt := salt) (n := n) h256))
    have HV := hid hv
    clear hv hqe hem hl
    obtain ⟨E, hE⟩ : ∃ E, E = chiE x.length n := ⟨_, rfl⟩
    rw [← hE] at hq0 EM CS hp
    clear hE
    go_enter Try.func57, Try.ntmps57
    go_wp2_with fail
    refine (iSpread_yes A c x salt n _ X.out hn HV.out).mono ?_
    rintro e w1 ⟨A1, c1, rfl, ho, hb⟩
    have S1 := hid hb
    have HO := hid ho.rd
    obtain ⟨L, hL⟩ : ∃ L, L = spreadL x salt n := ⟨_, rfl⟩
    rw [← hL] at HO BD SL CS hp
    clear ho hb hL
    go_wp2_with (simp only [hq0])
    go_loop [11, 13, 14, 37] (fun v e1_ e2_ i => ∃ k : Nat, k ≤ n ∧ i = .int .i64 k ∧ ∃ z : Nat, v = .float .f32 z ∧ Hid (chiTo L E k = z)) (fun v e1_ e2_ i => n - (intOf i).toNat)
    case atStart => exact ⟨0, Nat.zero_le _, rfl, _, rfl, rfl⟩
    case round =>
      obtain ⟨k, hk, rfl, z, rfl, hh⟩ := hrel
      by_cases hlt : k < n
      · have hi : (k : Int) < (n : Int) := by omega
        obtain ⟨b, o, y, rfl, hcy, hyk⟩ := HO.out.at_ (k := k) (by rw [SL.out]; exact hlt)
        have hyb := BD.out y (List.mem_of_getElem? hyk.out)
        have hgy : L.getD k 0 = y := getD_of hyk
        obtain ⟨o1, o2, o3, o4, _⟩ := chi_ops (c := L) (k := k) EM.out (by rw [hgy]; exact hyb.1) (by rw [hgy]; exact hyb.2) (CS.out k (by rw [SL.out]; omega))
        rw [hgy] at o1
        rw [hh.out] at o4
        have r1 : ∀ t w, (binOp .sub t (.float .f32 (floatOfInt .f32 y)) (.float .f32 E)).run Try.prog w = .ok (.float .f32 (chiZ L E k)) w := fun t w => run_float_arith w .sub t .f32 _ _ _ o1
        have r2 : ∀ t w, (binOp .mul t (.float .f32 (chiZ L E k)) (.float .f32 (chiZ L E k))).run Try.prog w = .ok (.float .f32 (fop .mul (chiZ L E k) (chiZ L E k))) w := fun t w => run_float_arith w .mul t .f32 _ _ _ o2
        have r3 : ∀ t w, (binOp .quo t (.float .f32 (fop .mul (chiZ L E k) (chiZ L E k))) (.float .f32 E)).run Try.prog w = .ok (.float .f32 (fop .quo (fop .mul (chiZ L E k) (chiZ L E k)) E)) w := fun t w => run_float_arith w .quo t .f32 _ _ _ o3
        have r4 : ∀ t w, (binOp .add t (.float .f32 z) (.float .f32 (fop .quo (fop .mul (chiZ L E k) (chiZ L E k)) E))).run Try.prog w = .ok (.float .f32 (chiTo L E (k + 1))) w := fun t w => run_float_arith w .add t .f32 _ _ _ o4
        clear o1 o2 o3 o4 hyb hgy hq0
        go_wp2_with (simp only [r1, r2, r3, r4])
        exact ⟨⟨k + 1, by omega, by go_num, _, rfl, rfl⟩, by simp [intOf]; omega⟩
      · have hi : ¬ (k : Int) < (n : Int) := by omega
        obtain rfl : k = n := by omega
        go_wp2
        go_ret2
        exact ⟨by rw [hp.out, hh.out]; rfl, S1.out⟩
end Go.Proofs.Ytmmolicodlmlkaa
namespace Go.Proofs.Ytmmolicodlmlkaa
open Go.RowKit Ieee
set_option linter.unusedVariables false
set_option linter.unusedSimpArgs false

theorem ord_mg (row : List Int) (n : Nat) : (ordL row n).Perm (idxL n) ∧ (ordL row n).Pairwise (RelR row) := isrt_mg (RelR.tr row) (idxL n) (idxL_cr row n)
theorem ord_at {row : List Int} {n k : Nat} (h : k < n) : ∃ j : Nat, (ordL row n)[k]? = some (j : Int) ∧ j < n := by
  have hl : k < (ordL row n).length := by rw [ordL_length]; exact h
  obtain ⟨j, hj, hlt⟩ := ordL_mem (List.getElem_mem hl)
  exact ⟨j, by rw [List.getElem?_eq_getElem hl, hj], hlt⟩
theorem ord_step {row : List Int} {n k i j : Nat} (h1 : (ordL row n)[k]? = some (i : Int)) (h2 : (ordL row n)[k + 1]? = some (j : Int)) : row.getD i 0 ≤ row.getD j 0 := by
  obtain ⟨l1, e1⟩ := List.getElem?_eq_some_iff.1 h1
  obtain ⟨l2, e2⟩ := List.getElem?_eq_some_iff.1 h2
  have := List.pairwise_iff_getElem.1 (ord_mg row n).2 k (k + 1) l1 l2 (by omega)
  rw [e1, e2] at this
  unfold RelR atR at this
  simp only [Int.toNat_natCast] at this
  omega
theorem rowH_getD {x : List Int} {s n k : Nat} (h : k < n) : (rowH x s n).getD k 0 = (hashAt x s k : Int) := by rw [List.getD_eq_getElem?_getD, rowH_at h]; rfl
theorem ord_first {x : List Int} {s n : Nat} (h : 0 < n) : (ordL (rowH x s n) n)[0]? = some (leastTo x s n : Int) := by
  obtain ⟨j, hj, hlt⟩ := ord_at (row := rowH x s n) h
  rw [hj]
  have hL := leastTo_lt x s h
  obtain ⟨p1, p2⟩ := ord_mg (rowH x s n) n
  have hm : (leastTo x s n : Int) ∈ ordL (rowH x s n) n := p1.mem_iff.2 (List.mem_map.2 ⟨_, List.mem_range.2 hL, rfl⟩)
  obtain ⟨k, hk, ek⟩ := List.mem_iff_getElem.1 hm
  obtain ⟨l0, e0⟩ := List.getElem?_eq_some_iff.1 hj
  rcases Nat.eq_zero_or_pos k with rfl | hkp
  · rw [e0] at ek; rw [ek]
  · have := List.pairwise_iff_getElem.1 p2 0 k l0 hk hkp
    rw [e0, ek] at this
    unfold RelR atR at this
    simp only [Int.toNat_natCast, rowH_getD hlt, rowH_getD hL] at this
    obtain ⟨q1, q2⟩ := leastTo_spec x s n j hlt
    rcases this with h1 | ⟨h1, h2⟩
    · omega
    · have := q2 (by omega); omega
/-- How many of the first k counts are not 0. -/
def nzTo (c : List Int) (k : Nat) : Nat := ((List.range k).filter fun i => decide (0 < c.getD i 0)).length
theorem nzTo_succ (c : List Int) (k : Nat) : nzTo c (k + 1) = nzTo c k + if 0 < c.getD k 0 then 1 else 0 := by
  unfold nzTo
  rw [List.range_succ, List.filter_append, List.length_append]
  congr 1
  by_cases h : 0 < c.getD k 0
  · rw [if_pos h]; simp only [List.filter_cons, decide_eq_true h, if_true, List.filter_nil, List.length_singleton]
  · rw [if_neg h]; simp only [List.filter_cons, decide_eq_false h, Bool.false_eq_true, if_false, List.filter_nil, List.length_nil]
theorem nzTo_le (c : List Int) (k : Nat) : nzTo c k ≤ k := by
  unfold nzTo
  exact Nat.le_trans (List.length_filter_le _ _) (by simp)
theorem addAt_pos {i : Nat} : ∀ (l x : List Int), (∀ y ∈ l, ∃ m : Nat, y = m ∧ m < x.length) → (∀ j, 0 ≤ x.getD j 0) → (0 < (addAt 1 x l).getD i 0 ↔ 0 < x.getD i 0 ∨ (i : Int) ∈ l)
  | [], x, _, _ => by simp [addAt]
  | y :: l, x, hl, h0 => by
    obtain ⟨m, rfl, hm⟩ := hl y List.mem_cons_self
    have e : addAt 1 x ((m : Int) :: l) = addAt 1 (x.set m (x.getD m 0 + 1)) l := by simp [addAt]
    have hs : ∀ j, (x.set m (x.getD m 0 + 1)).getD j 0 = if j = m then x.getD m 0 + 1 else x.getD j 0 := by
      intro j
      by_cases hj : j = m
      · subst hj; rw [if_pos rfl]; simp only [List.getD_eq_getElem?_getD, List.getElem?_set_self hm, Option.getD_some]
      · rw [if_neg hj]; simp only [List.getD_eq_getElem?_getD, List.getElem?_set_ne (Ne.symm hj)]
    rw [e, addAt_pos l _ (fun z hz => by obtain ⟨q, h1, h2⟩ := hl z (List.mem_cons_of_mem _ hz); exact ⟨q, h1, by simpa using h2⟩) (fun j => by rw [hs]; have := h0 j; have := h0 m; split <;> omega), hs, List.mem_cons]
    have := h0 m
    by_cases hi : i = m
    · subst hi; rw [if_pos rfl]
      exact ⟨fun _ => .inr (.inl rfl), fun _ => .inl (by omega)⟩
    · rw [if_neg hi]
      constructor
      · rintro (h | h)
        · exact .inl h
        · exact .inr (.inr h)
      · rintro (h | h | h)
        · exact .inl h
        · exact absurd (by exact_mod_cast h) hi
        · exact .inr h
theorem spreadP_mem {x : List Int} {s n : Nat} (hn : 0 < n) : ∀ y ∈ spreadP x s n, ∃ m : Nat, y = m ∧ m < n := by
  intro y hy
  obtain ⟨i, _, rfl⟩ := List.mem_map.1 hy
  exact ⟨_, rfl, belowN_lt _ _ _ hn⟩
theorem spread_pos {x : List Int} {s n i : Nat} (hn : 0 < n) : 0 < (spreadL x s n).getD i 0 ↔ (i : Int) ∈ spreadP x s n := by
  have hz : ∀ j, (List.replicate n (0 : Int)).getD j 0 = 0 := by
    intro j
    rw [List.getD_eq_getElem?_getD]
    cases h : (List.replicate n (0 : Int))[j]? with
    | none => rfl
    | some v => exact List.eq_of_mem_replicate (List.mem_of_getElem? h)
  unfold spreadL
  rw [addAt_pos _ _ (fun y hy => by obtain ⟨m, h1, h2⟩ := spreadP_mem hn y hy; exact ⟨m, h1, by simpa using h2⟩) (fun j => by rw [hz]; exact Int.le_refl _), hz]
  simp
theorem met_nz {x D : List Int} {s n : Nat} {out : Int} (hn : 0 < n) (h : Met (spreadP x s n) D out) : out = (x.length : Int) - (nzTo (spreadL x s n) n : Int) := by
  have hD : ∀ y ∈ D, ∃ m : Nat, y = m ∧ m < n := fun y hy => spreadP_mem hn y ((h.mem y).1 hy)
  have hp : D.Perm (((List.range n).filter fun i => decide (0 < (spreadL x s n).getD i 0)).map fun (i : Nat) => (i : Int)) := by
    refine (List.perm_ext_iff_of_nodup h.nd ?_).2 fun y => ?_
    · have h1 : ((List.range n).filter fun i => decide (0 < (spreadL x s n).getD i 0)).Nodup := List.Pairwise.filter _ List.nodup_range
      unfold List.Nodup at h1 ⊢
      rw [List.pairwise_map]
      exact h1.imp fun h e => h (by exact_mod_cast e)
    · rw [h.mem]
      constructor
      · intro hy
        obtain ⟨m, rfl, hm⟩ := spreadP_mem hn y hy
        exact List.mem_map.2 ⟨m, List.mem_filter.2 ⟨List.mem_range.2 hm, decide_eq_true ((spread_pos hn).2 hy)⟩, rfl⟩
      · intro hy
        obtain ⟨m, hm, rfl⟩ := List.mem_map.1 hy
        exact (spread_pos hn).1 (of_decide_eq_true (List.mem_filter.1 hm).2)
  have hl := hp.length_eq
  rw [List.length_map] at hl
  have hc := h.cnt
  rw [spreadP_length] at hc
  unfold nzTo
  omega
theorem sg_low {b : Nat} (h : Sg single false b) : (FloatKind.f32.format.order b 0 == some .lt) = false := by
  have r0 : single.read 0 = .number false 0 (-149) := by decide +kernel
  show (single.order b 0 == some .lt) = false
  unfold Format.order
  rcases h with ⟨m, e, h⟩ | h <;> rw [h, r0]
  · show (some (compare (signed false m _) (signed false 0 _)) == some Ordering.lt) = false
    refine cmp_ge ?_
    simp only [signed, Bool.false_eq_true, if_false, Nat.zero_shiftLeft]
    exact Int.ofNat_le.2 (Nat.zero_le _)
  · rfl
theorem like_all (a s : List Int) : ∀ n, likeTo a a s n = n
  | 0 => rfl
  | n + 1 => by
    rw [likeTo_succ, like_all a s n]
    simp [sameAt]
theorem shareB_one {m : Nat} (h1 : 1 ≤ m) (h2 : m ≤ 6) : (FloatKind.f32.format.order (shareB m m) 1065353216 == some .eq) = true := by
  have h : m = 1 ∨ m = 2 ∨ m = 3 ∨ m = 4 ∨ m = 5 ∨ m = 6 := by omega
  rcases h with rfl | rfl | rfl | rfl | rfl | rfl <;> decide +kernel
/-- What the law draws. -/
structure FhOk (ks sl : List Int) (n size : Nat) : Prop where
  kn : ks.length = n
  n1 : 1 ≤ n
  n2 : n ≤ 20
  s1 : 1 ≤ sl.length
  s2 : sl.length ≤ 6
  z1 : 1 ≤ size
  z2 : size ≤ 200
  kb : ∀ y ∈ ks, 0 ≤ y ∧ y ≤ 65535
  sb : ∀ y ∈ sl, 0 ≤ y ∧ y ≤ 65535
theorem keysQ_of {x : List Int} (h1 : x.length ≤ 256) (h2 : ∀ y ∈ x, 0 ≤ y ∧ y ≤ 65535) : keysQ x = true := by
  unfold keysQ allB
  rw [Bool.and_eq_true, List.all_eq_true]
  exact ⟨decide_eq_true (by omega), fun y hy => inB_iff.2 (by have := h2 y hy; omega)⟩
section
variable {ks sl : List Int} {n size : Nat} (h : FhOk ks sl n size)
include h
theorem FhOk.kq : keysQ ks = true := keysQ_of (by have := h.kn; have := h.n2; omega) h.kb
theorem FhOk.sq : keysQ sl = true := keysQ_of (by have := h.s2; omega) h.sb
theorem FhOk.like : (pLikeShare ks ks sl).2 = true ∧ (FloatKind.f32.format.order (pLikeShare ks ks sl).1 1065353216 == some .eq) = true := by
  have h1 := h.kn; have h2 := h.n1; have h3 := h.s1; have h4 := h.s2
  have hv : vLike ks ks sl = true := by
    have k1 : keysB ks = true := h.kq
    have k2 : keysB sl = true := h.sq
    have d1 : decide ((ks.length : Int) < 1) = false := decide_eq_false (by omega)
    have d2 : decide ((sl.length : Int) < 1) = false := decide_eq_false (by omega)
    have d3 : decide ((sl.length : Int) > 32) = false := decide_eq_false (by omega)
    unfold vLike
    rw [k1, k2, d1, d2, d3]; rfl
  unfold pLikeShare
  rw [if_pos hv, like_all]
  exact ⟨rfl, shareB_one h3 h4⟩
theorem FhOk.chi {s : Nat} (hs : s ≤ 65535) : (pChiOfKeys ks s size).2 = true ∧ (FloatKind.f32.format.order (pChiOfKeys ks s size).1 0 == some .lt) = false := by
  have h1 := h.kn; have h2 := h.n1; have h3 := h.n2; have h4 := h.z1; have h5 := h.z2
  have hv : (vSpread ks s size && !decide ((ks.length : Int) < 1)) = true := by
    have k1 : keysB ks = true := h.kq
    have d1 : decide ((ks.length : Int) < 1) = false := decide_eq_false (by omega)
    have d2 : inB (s : Int) 0 4294967295 = true := inB_iff.2 (by omega)
    have d3 : inB (size : Int) 1 256 = true := inB_iff.2 (by omega)
    unfold vSpread
    rw [k1, d1, d2, d3]; rfl
  unfold pChiOfKeys
  rw [if_pos hv]
  simp only [Int.toNat_natCast]
  obtain ⟨_, a, b, he⟩ := chiE_spec (len := ks.length) (n := size) (by omega) (by omega) h4 (by omega)
  exact ⟨trivial, sg_low (chi_sg he (spreadL_bd (by omega)) size (by rw [spreadL_length]; exact Nat.le_refl _))⟩
end
end Go.Proofs.Ytmmolicodlmlkaa
namespace Go.Proofs.Ytmmolicodlmlkaa
open Go.RowKit
set_option linter.unusedVariables false
set_option linter.unusedSimpArgs false

/-- The sign of a key. -/
def sgnN (k s : Nat) : Int := if hashN k s < 2147483648 then 1 else -1
set_option maxRecDepth 100000 in
theorem sign_any (k s : Nat) (w : World) (hk : k < 4294967296) (hs : s < 4294967296) :
    Calls Try.prog 112 #[.int .i64 k, .int .i64 s] w fun e w' => e = .returned (.int .i64 (sgnN k s)) ∧ w = w' := by
  obtain ⟨h, hhe⟩ : ∃ h, h = hashN k s := ⟨_, rfl⟩
  have H : Hid (Calls Try.prog 111 #[.int .i64 k, .int .i64 s] w fun e w' => e = .returned (.int .i64 h) ∧ w = w') := hhe ▸ ihash_any k s w hk hs
  have hsg : sgnN k s = if h < 2147483648 then 1 else -1 := by rw [hhe]; rfl
  rw [hsg]
  clear hhe hsg
  by_cases hc : h < 2147483648
  · have h1 : (h : Int) < 2147483648 := by omega
    rw [if_pos hc]
    clear hc
    go_enter Try.func112, Try.ntmps112
    go_wp2_with (go_at_call 111; with_reducible refine H.out.mono ?_; rintro e w' ⟨rfl, rfl⟩)
    go_ret
    exact ⟨rfl, rfl⟩
  · have h1 : decide ((h : Int) < 2147483648) = false := decide_eq_false (by omega)
    rw [if_neg hc]
    clear hc
    go_enter Try.func112, Try.ntmps112
    go_wp2_with (go_at_call 111; with_reducible refine H.out.mono ?_; rintro e w' ⟨rfl, rfl⟩)
    go_ret
    exact ⟨rfl, rfl⟩
theorem SignOf_any (k s : Nat) (w : World) (hk : k < 4294967296) (hs : s < 4294967296) :
    Calls Try.prog 59 #[.int .i64 k, .int .i64 s] w fun e w' => e = .returned (.tuple #[.int .i64 (sgnN k s), .bool true]) ∧ w = w' := by
  have h1 : inB (k : Int) 0 4294967295 = true := inB_iff.2 (by omega)
  have h2 : inB (s : Int) 0 4294967295 = true := inB_iff.2 (by omega)
  go_enter Try.func59, Try.ntmps59
  go_wp2_with (first | (go_at_call 63; refine (IsKey_any _ _).mono ?_; rintro e w' ⟨rfl, rfl⟩) | (go_at_call 112; refine (sign_any k s _ hk hs).mono ?_; rintro e w' ⟨rfl, rfl⟩))
  go_ret2
  exact ⟨rfl, rfl⟩
theorem BelowHash_any (k s n : Nat) (w : World) (hk : k < 4294967296) (hs : s < 4294967296) (hn0 : 1 ≤ n) (hn : n ≤ 256) :
    Calls Try.prog 60 #[.int .i64 k, .int .i64 s, .int .i64 n] w fun e w' => e = .returned (.tuple #[.int .i64 (belowN k s n), .bool true]) ∧ w = w' := by
  have h1 : inB (k : Int) 0 4294967295 = true := inB_iff.2 (by omega)
  have h2 : inB (s : Int) 0 4294967295 = true := inB_iff.2 (by omega)
  have h3 : inB (n : Int) 1 4294967296 = true := inB_iff.2 (by omega)
  go_enter Try.func60, Try.ntmps60
  go_wp2_with (first | (go_at_call 63; refine (IsKey_any _ _).mono ?_; rintro e w' ⟨rfl, rfl⟩) | (go_at_call 97; refine (within_any _ _ _ _).mono ?_; rintro e w' ⟨rfl, rfl⟩) | (go_at_call 110; refine (ibelow_any k s n _ hk hs (by omega)).mono ?_; rintro e w' ⟨rfl, rfl⟩))
  go_ret2
  exact ⟨rfl, rfl⟩
theorem LeastHash_any (A : Option Addr) (c : Nat) (x : List Int) (salt : Nat) (w : World) (hx : RdL (Value.int .i64) w A x) (hn : x.length ≤ 256) (hp : 0 < x.length) (hbd : ∀ y ∈ x, 0 ≤ y ∧ y ≤ 4294967295) (hs : salt < 4294967296) (hq : keysQ x = true) :
    Calls Try.prog 54 #[.slice A x.length c, .int .i64 salt] w fun e w' => e = .returned (.tuple #[.int .i64 (hashAt x salt (leastTo x salt x.length)), .int .i64 (leastTo x salt x.length), .bool true]) ∧ Below w.heap.size w w' := by
  have K : Hid (Calls Try.prog 65 #[.slice A x.length c] w fun e w' => e = .returned (.bool true) ∧ w = w') := hq ▸ AreKeys_q A c x w hx (by omega)
  have L : Hid (Calls Try.prog 109 #[.slice A x.length c, .int .i64 salt] w fun e w' => e = .returned (.tuple #[.int .i64 (hashAt x salt (leastTo x salt x.length)), .int .i64 (leastTo x salt x.length)]) ∧ Below w.heap.size w w') := least_any A c x salt w hx hn hp hbd hs
  have h2 : inB (salt : Int) 0 4294967295 = true := inB_iff.2 (by omega)
  have hne : ((x.length : Int) == 0) = false := beq_eq_false_iff_ne.2 (by omega)
  clear hx hbd hq hp hn hs
  go_enter Try.func54, Try.ntmps54
  go_wp2_with (first | (go_at_call 63; refine (IsKey_any _ _).mono ?_; rintro e w' ⟨rfl, rfl⟩) | (go_at_call 65; with_reducible refine K.out.mono ?_; rintro e w' ⟨rfl, rfl⟩) | (go_at_call 109; with_reducible refine L.out.mono ?_; rintro e w' ⟨rfl, hb⟩))
  have HB := hid hb
  clear hb K L
  go_wp2
  go_ret3
  exact ⟨rfl, HB.out⟩
theorem Try.infoBB : (Try.prog.info? 4).map (fun i => (i.zero, i.size, i.bytes)) = some (some (.bool false), 1, 1) := by kernel_rfl
theorem OwnB_made (w : World) {B : Nat} (hB : B ≤ w.heap.size) : (w.alloc (.cells #[] 4)).ownsRow B 4 1 (.slice (some ⟨w.heap.size, 0, none⟩) 0 0) 0 [] := World.ownsRow_made w #[] 0 hB (Nat.zero_le _) rfl
theorem app_bool {ops : Array Oper} {rest : List Oper} {o : Oper} {a : Act} {Q : Exit → Act → World → Prop} (hgd : o.guard = none) (s x : Operand)
    (ho : o.op = .call { callee := .builtin .append, args := #[s, x], argTypes := #[70, 70] })
    (y : Bool) {w0 wr : World} {B : Nat} {v : Value} {xs : List Bool} (hown : wr.ownsRow B 4 1 v xs.length (xs.map Value.bool)) (hB : Below B w0 wr) (hs : a.eval s = v) (hx : a.eval x = .slice (some ⟨wr.heap.size, 0, none⟩) 1 1)
    (hl : xs.length ≤ 1048577) (hsz : B ≤ wr.heap.size)
    (h : ∀ v' w', Hid (w'.ownsRow B 4 1 v' (xs ++ [y]).length ((xs ++ [y]).map Value.bool)) → Hid (Below B w0 w') → wpList Try.prog ops Q rest (a.put o.dst v') w') :
    wpList Try.prog ops Q (o :: rest) a (wr.alloc (.cells #[.bool y] 4)) := by
  obtain ⟨i0, hi0, hz0, hz1, hz2⟩ := info_parts Try.infoBB
  refine wpList_append_own_at (wr.alloc (.cells #[.bool y] 4)) hgd s x 70 ho B 4 i0 (.bool false) 1 1 Try.underlying70 hi0 hz0 hz1 hz2 rfl (by decide) v xs.length _ hs (World.ownsRow.alloc hown _) ⟨wr.heap.size, 0, none⟩ 1 1 [.bool y] hx rfl (cell_one_new _ _ _) ?_ ?_ ?_ ?_ ?_
  · intro u hu; simp at hu; subst hu; rfl
  · simp only [maxLen]; omega
  · omega
  · simp; omega
  · intro v' w1 hown' hgrow _ hat
    refine h v' w1 ?_ ?_
    · have e : (xs ++ [y]).length = xs.length + 1 := by simp
      rw [e, List.map_append]; exact hown'
    · exact (hB.alloc hsz _).grown hgrow (by simp; omega) (fun g hg => (World.ownsRow.lt (World.ownsRow.alloc hown (.cells #[.bool y] 4)) g hg).1)
theorem and_one (h : Nat) (hh : h < 4294967296) : (bits .and .i64 ((h : Int) / 2147483648) 1 == 1) = decide (2147483648 ≤ h) := by
  by_cases hc : 2147483648 ≤ h
  · have e : (h : Int) / 2147483648 = 1 := by omega
    rw [e, decide_eq_true hc]; decide
  · have e : (h : Int) / 2147483648 = 0 := by omega
    rw [e, decide_eq_false hc]; decide
set_option maxHeartbeats 1600000 in
theorem BitsOfHash_any (k s : Nat) (w : World) (hk : k < 4294967296) (hs : s < 4294967296) :
    Calls Try.prog 62 #[.int .i64 k, .int .i64 s, .int .i64 32] w fun e w' => ∃ A c xs, e = .returned (.tuple #[.slice A 32 c, .bool true]) ∧ xs.length = 32 ∧ xs[0]? = some (decide (2147483648 ≤ hashN k s)) ∧ RdL Value.bool w' A xs ∧ Below w.heap.size w w' := by
  have h1 : inB (k : Int) 0 4294967295 = true := inB_iff.2 (by omega)
  have h2 : inB (s : Int) 0 4294967295 = true := inB_iff.2 (by omega)
  have h3 : inB (32 : Int) 0 32 = true := by decide
  obtain ⟨h, hhe⟩ : ∃ h, h = hashN k s := ⟨_, rfl⟩
  have hh : h < 4294967296 := hhe ▸ hashN_lt k s
  have H : Hid (∀ w, Calls Try.prog 111 #[.int .i64 k, .int .i64 s] w fun e w' => e = .returned (.int .i64 h) ∧ w = w') := fun w => hhe ▸ ihash_any k s w hk hs
  rw [← hhe]
  clear hhe
  go_enter Try.func62, Try.ntmps62
  go_wp2_with (first | (go_at_call 63; refine (IsKey_any _ _).mono ?_; rintro e w' ⟨rfl, rfl⟩) | (go_at_call 97; refine (within_any _ _ _ _).mono ?_; rintro e w' ⟨rfl, rfl⟩) | (go_at_call 111; refine (H.out _).mono ?_; rintro e w' ⟨rfl, rfl⟩))
  clear H h1 h2 h3
  go_loopw [9, 29] (fun v i wr => ∃ (n : Nat) (xs : List Bool), n ≤ 32 ∧ i = .int .i64 n ∧ Hid (xs.length = n) ∧ Hid (0 < n → xs[0]? = some (decide (2147483648 ≤ h))) ∧ Hid (wr.ownsRow w.heap.size 4 1 v xs.length (xs.map Value.bool)) ∧ Hid (Below w.heap.size w wr) ∧ w.heap.size ≤ wr.heap.size) (fun v i _ => 32 - (intOf i).toNat)
  case atStart => exact ⟨0, [], Nat.zero_le _, rfl, rfl, by show 0 < 0 → _; omega, OwnB_made w (Nat.le_refl _), below_a1 _ _, by simp⟩
  case round =>
    obtain ⟨n, xs, hn, rfl, hxl, hx0, hO, hB, hsz⟩ := hrel
    by_cases hlt : n < 32
    · have hi : (n : Int) < 32 := by omega
      have hxb : xs.length ≤ 1048577 := by have := hxl.out; omega
      by_cases h0 : n = 0
      · subst h0
        obtain rfl : xs = [] := List.eq_nil_of_length_eq_zero hxl.out
        go_wp2_with (at_builtin; refine app_bool rfl _ _ rfl _ hO.out hB.out rfl rfl hxb hsz ?_)
        rw [and_one h hh]
        intro v' w' hO' hB'
        go_wp2
        exact ⟨⟨1, [decide (2147483648 ≤ h)], by omega, by go_num, rfl, fun _ => rfl, hO', hB', hB'.out.size⟩, by simp [intOf]⟩
      · go_wp2_with (at_builtin; refine app_bool rfl _ _ rfl _ hO.out hB.out rfl rfl hxb hsz ?_)
        intro v' w' hO' hB'
        go_wp2
        exact ⟨⟨n + 1, xs ++ [_], by omega, by go_num, by show _ = _; rw [List.length_append, hxl.out]; rfl, fun _ => by rw [List.getElem?_append_left (by rw [hxl.out]; omega)]; exact hx0.out (by omega), by have h1 := hO'.out; show World.ownsRow _ _ _ _ _ _ _; rw [List.length_append, List.map_append]; exact h1, hB', hB'.out.size⟩, by simp [intOf]; omega⟩
    · obtain rfl : n = 32 := by omega
      obtain ⟨A, c, rfl, ho⟩ := ownS_of_row hO.out rfl
      go_wp2
      go_ret2
      exact ⟨A, c, xs, by rw [hxl.out]; rfl, hxl.out, hx0.out (by omega), ho.rd, hB.out⟩
end Go.Proofs.Ytmmolicodlmlkaa
namespace Go.Proofs.Ytmmolicodlmlkaa
set_option linter.unusedVariables false

/-- Each operation waits for earlier ones alone, and later ones wait for it or stand apart. -/
def lexOk (ops : Array Oper) : Nat → List Oper → Bool
  | _, [] => true
  | k, o :: l => (o.after.toList.all fun e => !Region.binds .any e || decide (e.on < k)) && (l.all fun oj => (oj.after.toList.any fun e => Region.binds .any e && e.on == k) || o.apart ops oj) && lexOk ops (k + 1) l
/-- The first k operations are done. -/
def Upto (n k : Nat) (listed : Array Bool) : Prop := listed.size = n ∧ ∀ i, i < n → listed[i]? = some (decide (i < k))
section
variable {P : Program} {ops : Array Oper} {C : World → Prop} {n k : Nat} {listed : Array Bool}
theorem Upto.next (h : Upto n k listed) : Upto n (k + 1) (listed.setIfInBounds k true) := by
  refine ⟨by rw [Array.size_setIfInBounds]; exact h.1, fun i hi => ?_⟩
  by_cases e : k = i
  · subst e
    rw [Array.getElem?_setIfInBounds_self_of_lt (by rw [h.1]; exact hi), decide_eq_true (by omega)]
  · rw [Array.getElem?_setIfInBounds_ne e, h.2 i hi]
    congr 1
    exact decide_eq_decide.2 (by omega)
theorem Upto.none (n : Nat) : Upto n 0 (Array.replicate n false) := ⟨by simp, fun i hi => by rw [Array.getElem?_replicate, if_pos hi, decide_eq_false (by omega)]⟩
theorem Upto.at (h : Upto n k listed) {i : Nat} (hi : i < n) (d : Bool) : listed.getD i d = decide (i < k) := by
  rw [Array.getD_eq_getD_getElem?, h.2 i hi]; rfl
theorem wpAnyQ_lexOk {Q : Act → Prop} (hs : Region.noSelect ops = true) : ∀ (l : List Oper) (k : Nat) (listed : Array Bool) (a : Act), (∀ j, l[j]? = ops[k + j]?) → Upto ops.size k listed →
    lexOk ops k l = true → wpQuiet P ops C Q l a → wpAnyQ P .any ops C Q l.length listed a
  | [], k, listed, a, hl, hu, _, h => by
    refine ⟨List.eq_nil_iff_forall_not_mem.2 fun j hj => ?_, h⟩
    obtain ⟨h0, o, ho, _⟩ := mem_ready.1 hj
    have hlt : j < ops.size := (Array.getElem?_eq_some_iff.1 ho).1
    rw [hu.at hlt] at h0
    have hk : k ≤ j := by have := of_decide_eq_false h0; omega
    have := hl (j - k)
    rw [show k + (j - k) = j by omega, ho] at this
    cases this
  | o :: l, k, listed, a, hl, hu, hB, h => by
    have h0 : ops[k]? = some o := by simpa using (hl 0).symm
    have hk : k < ops.size := (Array.getElem?_eq_some_iff.1 h0).1
    simp only [lexOk, Bool.and_eq_true, List.all_eq_true] at hB
    obtain ⟨⟨hr, hf⟩, hB'⟩ := hB
    have hl' : ∀ j, l[j]? = ops[k + 1 + j]? := fun j => by have := hl (j + 1); simpa [Nat.add_assoc, Nat.add_comm 1 j] using this
    have hst : qOp P ops C k (wpQuiet P ops C Q l) a := by unfold qOp; simp only [h0]; exact h
    obtain ⟨v, hy, hK⟩ := yieldsIn_of_qOp h0 hst
    refine wpAnyQ_first h0 (Region.noSelect_spec hs) l.length listed a (fun j oj hj hne hun hno => ?_) ?_ hy (wpAnyQ_lexOk hs l (k + 1) _ _ hl' hu.next hB' hK)
    · have hlt : j < ops.size := (Array.getElem?_eq_some_iff.1 hj).1
      rw [hu.at hlt] at hun
      have hkj : k < j := by have := of_decide_eq_false hun; omega
      have hm := hl' (j - (k + 1))
      rw [show k + 1 + (j - (k + 1)) = j by omega, hj] at hm
      have h1 := hf oj (List.mem_of_getElem? hm)
      rcases Bool.or_eq_true_iff.1 h1 with h1 | h1
      · obtain ⟨e, he, hb⟩ := List.any_eq_true.1 h1
        simp only [Bool.and_eq_true, beq_iff_eq] at hb
        exact absurd hb.2 (hno e (by simpa using he) hb.1)
      · exact h1
    · refine mem_ready.2 ⟨by rw [hu.at hk, decide_eq_false (by omega)], o, h0, fun e he hb => ?_⟩
      have h1 := hr e (by simpa using he)
      rw [hb] at h1
      simp only [Bool.not_true, Bool.false_or] at h1
      have h2 := of_decide_eq_true h1
      rw [hu.at (by omega)]
      exact h1
theorem wp_region_quiet_big {id : Nat} {Q : Exit → Act → World → Prop} {a : Act} {w : World} {l : List Oper} (hm : P.follows .mixedOrders = true) (hs : Region.noSelect l.toArray = true) (hB : lexOk l.toArray 0 l = true)
    (h : wpQuiet P l.toArray (fun w' => ∃ n, w' = w.drewN n) (fun a' => ∀ w', (∃ n, w' = w.drewN n) → Q .normal a' w') l a) : (Code.region id l.toArray true).wp P Q a w := by
  refine wp_region_any hm (wpAny_of_quiet (C := fun w' => ∃ n, w' = w.drewN n) (Q := fun a' => ∀ w', (∃ n, w' = w.drewN n) → Q .normal a' w') (fun _ w' hw' h => h w' hw') _ _ _ _ ⟨1, rfl⟩ ?_)
  have := wpAnyQ_lexOk (P := P) (C := fun w' => ∃ n, w' = w.drewN n) hs l 0 (Array.replicate l.toArray.size false) a (by simp) (Upto.none _) hB h
  simpa using this
end
end Go.Proofs.Ytmmolicodlmlkaa
namespace Go.Proofs.Ytmmolicodlmlkaa
open Go.ChangeShapes Go.WideShapes Go.ChangeAt Go.RowKit Go.Deep

section
variable {H : Type} {enc : TypeId × Value → H} {P : Program} {w : World}
theorem byte_wf {y : Int} (h : (Lit.int .u8 y).wf = true) : 0 ≤ y ∧ y ≤ 255 := by
  simpa [Lit.wf, IntKind.min, IntKind.max, IntKind.signed, IntKind.bits] using h
theorem open_byteL {t e : TypeId} {fuel : Nat} {v : Value} {x : DataW H × List MemPlace} (ht : P.underlying t = some (.slice e)) (he : P.underlying e = some (.int .u8)) (hc : P.cellsOf e = 1)
    (h : DataW.trod enc P w 0 (fun _ => true) true fuel t [v] = some x) :
    ∃ A c xs n, v = .slice A n c ∧ Hid (xs.length = n) ∧ n ≤ 9223372036854775807 ∧ RdL (Value.int .u8) w A xs ∧ ∀ y ∈ xs, 0 ≤ y ∧ y ≤ 255 := by
  rcases open_ints ht he hc h with ⟨hcs, _⟩ | ⟨a, len, cap, zs, hcs, _, hl, hm, hz, _, hcell, hwz⟩
  · simp at hcs
    subst hcs
    exact ⟨none, 0, [], 0, rfl, rfl, by omega, RdL.nil, by simp⟩
  · simp at hcs hz
    subst hcs
    obtain ⟨b, o, spot⟩ := a
    refine ⟨some ⟨b, o, spot⟩, cap, zs.take len, len, rfl, ?_, ?_, ?_, fun y hy => byte_wf (hwz y (List.mem_of_mem_take hy))⟩
    · show (zs.take len).length = len
      simp; omega
    · simp only [maxLen] at hm; omega
    · intro j hj
      have hj' : j < len ∧ j < zs.length := by
        have h0 : j < (zs.take len).length := hj
        simp at h0; omega
      have hs : spot = none := by simpa [Addr.add] using World.cell?_spot (hcell 0 (by omega))
      subst hs
      refine ⟨b, o, rfl, ?_⟩
      have := hcell j hj'.2
      rw [show (⟨b, o, none⟩ : Addr).add j = ⟨b, o + j, none⟩ from by unfold Addr.add; split <;> simp_all] at this
      rw [this]
      simp [hj'.2]
end
end Go.Proofs.Ytmmolicodlmlkaa
