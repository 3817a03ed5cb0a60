/-
  ExactCounts: the different keys, ascending, and how often each stands there: reference and program, by contracts.
-/
import Derived.Test.YtmafkkpdcajfoaaPut
import Derived.Test.YtmafkkpdcajfoaaKeys
import Derived.Test.YtmafkkpdcajfoaaSeek
import Derived.Test.YtmafkkpdcajfoaaSort
namespace Go.Proofs.Ytmafkkpdcajfoaa
open Go.RowKit
set_option linter.unusedVariables false
set_option linter.unusedSimpArgs false

/-- What ExactCounts returns. -/
def pExactCounts (x : List Int) : List Int × List Int × Bool := if keysQ x = true then (ascOf x, cnts (ascOf x) x, true) else ([], [], false)
/-- Two slices of the call's own, and a truth value. -/
def RetLL (w : World) (p : List Int × List Int × Bool) (e : Ending) (w' : World) : Prop :=
  ∃ A0 c0 A1 c1, e = .returned (.tuple #[.slice A0 p.1.length c0, .slice A1 p.2.1.length c1, .bool p.2.2]) ∧ OwnS (Value.int .i64) w' w.heap.size 2 A0 p.1 ∧ p.1.length ≤ 1048576 ∧
    OwnS (Value.int .i64) w' w.heap.size 2 A1 p.2.1 ∧ p.2.1.length ≤ 1048576 ∧ Apart A0 p.1.length A1 p.2.1.length ∧ Below w.heap.size w w'
theorem retLL_no {w : World} : ∀ (e : Ending) (w' : World), (e = .returned (.tuple #[.slice none 0 0, .slice none 0 0, .bool false]) ∧ Below w.heap.size w w') → RetLL w ([], [], false) e w' := by
  rintro e w' ⟨rfl, hb⟩
  exact ⟨none, 0, none, 0, rfl, OwnS.nil, by simp, OwnS.nil, by simp, .inl rfl, hb⟩
/-- Where a member lies. -/
theorem asc_find {d : List Int} {z : Int} (h : z ∈ d) : ∃ i : Nat, i < d.length ∧ d[i]? = some z ∧ idxP (fun y => y == z) d = i := by
  induction d with
  | nil => simp at h
  | cons y d ih =>
    by_cases hy : y = z
    · subst hy
      exact ⟨0, by simp, rfl, by simp [idxP, List.findIdx?_cons]⟩
    · simp only [List.mem_cons] at h
      rcases h with h | h
      · exact absurd h.symm hy
      · obtain ⟨i, h1, h2, h3⟩ := ih h
        refine ⟨i + 1, by simp; omega, by simpa using h2, ?_⟩
        unfold idxP at h3 ⊢
        rw [List.findIdx?_cons, if_neg (by simpa using hy)]
        cases hf : List.findIdx? (fun y => y == z) d with
        | none => rw [hf] at h3; exact absurd h3 (by first | (simp; done) | (simp; omega))
        | some j =>
          rw [hf] at h3
          have h4 : j = i := by simp at h3; omega
          subst h4; rfl

/-- The greatest member of an ascending list is the last. -/
theorem asc_last {o : List Int} {y : Int} (h : Asc o) (hm : y ∈ o) (hle : ∀ z ∈ o, z ≤ y) : o.getLast? = some y := by
  have hne : o ≠ [] := by rintro rfl; simp at hm
  obtain ⟨v, hv⟩ : ∃ v, o.getLast? = some v := ⟨_, List.getLast?_eq_some_getLast hne⟩
  have hvy := hle v (List.mem_of_getLast? hv)
  rw [hv]
  obtain ⟨i, hi, hzi⟩ := List.mem_iff_getElem.1 hm
  rw [List.getLast?_eq_getElem?] at hv
  obtain ⟨hj, hv⟩ := List.getElem?_eq_some_iff.1 hv
  by_cases hij : i = o.length - 1
  · subst hij; rw [← hv, hzi]
  · have := List.pairwise_iff_getElem.1 h i _ hi hj (by omega)
    rw [hzi, hv] at this; omega
theorem aptV_apart {A A' : Option Addr} {n m c c' : Nat} (h : AptV (.slice A n c) (.slice A' m c')) : Apart A n A' m := .inr (.inr fun g o g' o' h1 h2 e => by
  subst e h1 h2
  exact h g rfl rfl)

set_option maxRecDepth 100000 in
set_option maxHeartbeats 3200000 in
theorem iExactCounts_any (A : Option Addr) (c : Nat) (x : List Int) (w : World) (hx : RdL (Value.int .i64) w A x) (hn : x.length ≤ 1048576) (we : ∀ y ∈ x, W64 y) :
    Calls Try.prog 12 #[.slice A x.length c] w (RetLL w (pExactCounts x)) := by
  have HX := hid hx
  clear hx we
  cases hv : keysQ x with
  | false =>
    have hp : pExactCounts x = ([], [], false) := by simp [pExactCounts, hv]
    rw [hp]
    clear hp
    refine Calls.mono ?_ retLL_no
    go_enter Try.func12, Try.ntmps12
    go_wp2_with fail
    refine (AreKeys_q A c x _ HX.out hn).mono ?_
    rw [hv]
    rintro e w1 ⟨rfl, rfl⟩
    go_wp2
    go_ret3
    exact ⟨rfl, Below.refl _ _⟩
  | true =>
    obtain ⟨hx1, hx2⟩ := keysQ_iff hv
    have hp : pExactCounts x = (grp (sortI x), cnts (grp (sortI x)) (sortI x), true) := by
      rw [grp_sort, cnts_perm _ (sortI_perm x)]; simp [pExactCounts, hv]
    rw [hp]
    have hSl := sortI_length x
    have HPW := hid (sortI_pw x)
    obtain ⟨S, hS⟩ : ∃ S, S = sortI x := ⟨_, rfl⟩
    rw [← hS] at hSl HPW ⊢
    have HS := hid hS
    clear hp hx2 hS
    go_enter Try.func12, Try.ntmps12
    go_wp2_with fail
    refine (AreKeys_q A c x _ HX.out hn).mono ?_
    rw [hv]
    rintro e w1 ⟨rfl, rfl⟩
    clear hv
    go_wp2_with fail
    refine (cloneI_any A c x _ HX.out hn).mono ?_
    rintro e w1 ⟨A1, c1, rfl, hO1, hb1⟩
    have O1 := hid hO1
    have W1 := hid hb1
    clear hO1 hb1
    go_wp2_with fail
    refine (sort_any A1 c1 x w1 w.heap.size O1.out W1.out.size hn).mono ?_
    rintro e w2 ⟨rfl, hO2, hb2, _⟩
    rw [← HS.out] at hO2
    have OS := hid hO2
    have WS := hid (W1.out.trans hb2)
    clear hO2 hb2 O1 W1
    have hSn : S.length ≤ 256 := by omega
    rw [← hSl]
    go_wp2
    go_loopw [6, 7, 21] (fun v u i wr => ∃ k : Nat, k ≤ S.length ∧ i = .int .i64 k ∧ ∃ o cs, Hid (grp (S.take k) = o) ∧ Hid (cnts o (S.take k) = cs) ∧ Hid (OwnV wr w2.heap.size v o) ∧ Hid (OwnV wr w2.heap.size u cs) ∧ Hid (AptV v u) ∧ Hid (Below w2.heap.size w2 wr)) (fun _ _ i _ => S.length - (intOf i).toNat)
    case atStart =>
      refine ⟨0, Nat.zero_le _, rfl, [], [], rfl, rfl, (OwnV.made w2 (Nat.le_refl _)).below (below_a1 _ _), ?_, ?_, below_alloc2 _ _ _⟩
      · have := OwnV.made (w2.alloc (.cells #[] 2)) (B := w2.heap.size) (by simp)
        exact hid (by simpa using this)
      · intro g h1 h2
        simp [Value.ownBlock] at h1 h2
        omega
    case round =>
      obtain ⟨k, hk, rfl, o, cs, ho, hc, hO, hC, hap, hW⟩ := hrel
      have hg := hid (grp_spec k HPW.out)
      rw [ho.out] at hg
      have hcl : cs.length = o.length := by rw [← hc.out, cnts_length]
      have hol : o.length ≤ 256 := by
        have := grp_length (l := S) k
        rw [ho.out] at this; omega
      by_cases hlt : k < S.length
      · have hi : (k : Int) < (S.length : Int) := by omega
        obtain ⟨b, oo, y, rfl, hcy, hyk⟩ := (OS.out.rd.below hW.out).at_ hlt
        obtain ⟨A3, c3, rfl, hoS⟩ := hO.out.ownS
        have HOS := hid hoS
        clear hoS
        by_cases hnl : o.getLast? = some y
        · have hne : o ≠ [] := by rintro rfl; simp at hnl
          have hpos : 0 < o.length := List.length_pos_iff.2 hne
          have he0 : ((o.length : Int) == 0) = false := beq_eq_false_iff_ne.2 (by omega)
          obtain ⟨b3, o3, z, rfl, hcz, hzl⟩ := HOS.out.rd.at_ (k := o.length - 1) (by omega)
          have hz : z = y := by
            have h1 := hzl.out
            rw [← List.getLast?_eq_getElem?, hnl] at h1
            injection h1 with h1; exact h1.symm
          rw [hz] at hcz
          clear hzl hz
          have hs3 : (o.length : Int) - 1 = ((o.length - 1 : Nat) : Int) := by omega
          have hs4 : ((o.length - 1 : Nat) : Int) < (o.length : Int) := by omega
          have hs5 : (0 : Int) ≤ ((o.length - 1 : Nat) : Int) := by omega
          have he2 : grp (S.take (k + 1)) = o := by rw [grp_at hyk.out, ho.out, if_pos hnl]
          have hc0 : cnts o (S.take k) = cs := hc.out
          have hlen : cs.length = o.length := by omega
          have hj : o.length - 1 < cs.length := by omega
          obtain ⟨gg, cc, u, hv2, hBg, hglt, hcu, hfu, hum, hput⟩ := hC.out.put hj
          subst hv2
          have hdi : o[o.length - 1]? = some y := by rw [← List.getLast?_eq_getElem?]; exact hnl
          have hcn := cnts_at (l := S.take k) hdi
          rw [hc0] at hcn
          have hu : u = ((S.take k).count y : Int) := by
            have h1 := hum.out; rw [hcn] at h1; injection h1 with h1; exact h1.symm
          have hub : (S.take k).count y ≤ 256 := by have := List.count_le_length (a := y) (l := S.take k); simp at this; omega
          have hu1 : 0 ≤ u := by omega
          have hu2 : u ≤ 256 := by omega
          have hC3 := hput (u + 1)
          have hst := cnts_step (l := S.take k) (d := o) (by have := grp_spec (k + 1) HPW.out; rw [he2] at this; exact this.1) hdi
          have htk : S.take k ++ [y] = S.take (k + 1) := by rw [List.take_add_one, hyk.out]; rfl
          rw [hc0, ← hu, htk] at hst
          have HST := hid hst.symm
          have hne3 : Value.ownBlock _ ≠ some gg := fun h => hap.out gg h rfl
          have O3 := hid (hO.out.setOther hne3 (o.length - 1) (.int .i64 (u + 1)))
          have W3 := hid (hW.out.setCell (p := ⟨gg, (o.length - 1), none⟩) hBg (.int .i64 (u + 1)))
          have HE2 := hid he2
          have hsub : ((cs.length : Nat) : Int) - 1 = (((o.length - 1) : Nat) : Int) := by omega
          have hi1 : (((o.length - 1) : Nat) : Int) < ((cs.length : Nat) : Int) := by omega
          have hi0 : (0 : Int) ≤ (((o.length - 1) : Nat) : Int) := by omega
          clear hput hum hcn hu hub hst htk hdi he2 hc0 hne3 hBg
          go_wp2
          exact ⟨⟨k + 1, by omega, by go_num, _, _, HE2, HST, O3, hC3, hap, W3⟩, by simp [intOf]; omega⟩
        · have hny : y ∉ o := by
            intro hm
            -- all are at most y, and the list is ascending: y would be the last
            apply hnl
            have hle : ∀ z ∈ o, z ≤ y := by
              intro z hz
              have h1 := (hg.out.2.1 z).1 hz
              obtain ⟨i, hi', rfl⟩ := List.mem_iff_getElem.1 h1
              obtain ⟨hk', rfl⟩ := List.getElem?_eq_some_iff.1 hyk.out
              rw [List.getElem_take]
              simp at hi'
              exact List.pairwise_iff_getElem.1 HPW.out i k (by omega) hk' (by omega)
            exact asc_last hg.out.1 hm hle
          have hg := hid (show Asc o ∧ ∀ z, z ∈ o ↔ z ∈ S.take k from ⟨hg.out.1, hg.out.2.1⟩)
          by_cases hoe : o.length = 0
          · have he0 : ((o.length : Int) == 0) = true := beq_iff_eq.2 (by omega)
            have HOE := hid hoe
            clear hoe
            have he2 : grp (S.take (k + 1)) = o ++ [y] := by rw [grp_at hyk.out, ho.out, if_neg hnl]
            have hc0 : cnts (o ++ [y]) (S.take k) = cs ++ [0] := by rw [cnts_new (fun h => hny ((hg.out.2 y).2 h)), hc.out]
            have hol1 : o.length ≤ 1048577 := by omega
            have hcl1 : cs.length ≤ 1048577 := by omega
            go_wp2_with (at_builtin; refine app_int rfl _ _ rfl y hO.out hW.out rfl rfl hol1 hW.out.size ?_)
            intro v1 w1 O1 W1 hg1 KP1
            obtain ⟨hC1, hA1⟩ := KP1.out _ _ hC.out hap.out
            have C1 := hid hC1
            have AP1 := hid hA1
            clear hC1 hA1 KP1 hcy
            go_wp2_with (at_builtin; refine app_int rfl _ _ rfl 0 C1.out W1.out rfl rfl hcl1 W1.out.size ?_)
            intro v2 w2 C2 W2 hg2 KP2
            obtain ⟨hO2, hA2⟩ := KP2.out _ _ O1.out AP1.out.symm
            have O2 := hid hO2
            have AP2 := hid hA2.symm
            clear hO2 hA2 KP2 O1 C1 W1
            have hlen : (cs ++ [(0 : Int)]).length = o.length + 1 := by simp; omega
            have hj : o.length < (cs ++ [(0 : Int)]).length := by omega
            obtain ⟨gg, cc, u, hv2, hBg, hglt, hcu, hfu, hum, hput⟩ := C2.out.put hj
            subst hv2
            have hdi : (o ++ [y])[o.length]? = some y := by simp
            have hcn := cnts_at (l := S.take k) hdi
            rw [hc0] at hcn
            have hu : u = ((S.take k).count y : Int) := by
              have h1 := hum.out; rw [hcn] at h1; injection h1 with h1; exact h1.symm
            have hub : (S.take k).count y ≤ 256 := by have := List.count_le_length (a := y) (l := S.take k); simp at this; omega
            have hu1 : 0 ≤ u := by omega
            have hu2 : u ≤ 256 := by omega
            have hC3 := hput (u + 1)
            have hst := cnts_step (l := S.take k) (d := (o ++ [y])) (by have := grp_spec (k + 1) HPW.out; rw [he2] at this; exact this.1) hdi
            have htk : S.take k ++ [y] = S.take (k + 1) := by rw [List.take_add_one, hyk.out]; rfl
            rw [hc0, ← hu, htk] at hst
            have HST := hid hst.symm
            have hne3 : Value.ownBlock v1 ≠ some gg := fun h => AP2.out gg h rfl
            have O3 := hid (O2.out.setOther hne3 o.length (.int .i64 (u + 1)))
            have W3 := hid (W2.out.setCell (p := ⟨gg, o.length, none⟩) hBg (.int .i64 (u + 1)))
            have HE2 := hid he2
            have hsub : (((cs ++ [(0 : Int)]).length : Nat) : Int) - 1 = ((o.length : Nat) : Int) := by omega
            have hi1 : ((o.length : Nat) : Int) < (((cs ++ [(0 : Int)]).length : Nat) : Int) := by omega
            have hi0 : (0 : Int) ≤ ((o.length : Nat) : Int) := by omega
            clear hput hum hcn hu hub hst htk hdi he2 hc0 hne3 hBg
            go_wp2
            exact ⟨⟨k + 1, by omega, by go_num, _, _, HE2, HST, O3, hC3, AP2, W3⟩, by simp [intOf]; omega⟩
          · have hpos : 0 < o.length := by omega
            have he0 : ((o.length : Int) == 0) = false := beq_eq_false_iff_ne.2 (by omega)
            obtain ⟨b3, o3, z, rfl, hcz, hzl⟩ := HOS.out.rd.at_ (k := o.length - 1) (by omega)
            have hz : (z == y) = false := by
              rw [beq_eq_false_iff_ne]
              rintro rfl
              have h1 := hzl.out
              rw [← List.getLast?_eq_getElem?] at h1
              exact hnl h1
            have hs3 : (o.length : Int) - 1 = ((o.length - 1 : Nat) : Int) := by omega
            have hs4 : ((o.length - 1 : Nat) : Int) < (o.length : Int) := by omega
            have hs5 : (0 : Int) ≤ ((o.length - 1 : Nat) : Int) := by omega
            clear hoe
            have he2 : grp (S.take (k + 1)) = o ++ [y] := by rw [grp_at hyk.out, ho.out, if_neg hnl]
            have hc0 : cnts (o ++ [y]) (S.take k) = cs ++ [0] := by rw [cnts_new (fun h => hny ((hg.out.2 y).2 h)), hc.out]
            have hol1 : o.length ≤ 1048577 := by omega
            have hcl1 : cs.length ≤ 1048577 := by omega
            go_wp2_with (at_builtin; refine app_int rfl _ _ rfl y hO.out hW.out rfl rfl hol1 hW.out.size ?_)
            intro v1 w1 O1 W1 hg1 KP1
            obtain ⟨hC1, hA1⟩ := KP1.out _ _ hC.out hap.out
            have C1 := hid hC1
            have AP1 := hid hA1
            clear hC1 hA1 KP1 hcy
            go_wp2_with (at_builtin; refine app_int rfl _ _ rfl 0 C1.out W1.out rfl rfl hcl1 W1.out.size ?_)
            intro v2 w2 C2 W2 hg2 KP2
            obtain ⟨hO2, hA2⟩ := KP2.out _ _ O1.out AP1.out.symm
            have O2 := hid hO2
            have AP2 := hid hA2.symm
            clear hO2 hA2 KP2 O1 C1 W1
            have hlen : (cs ++ [(0 : Int)]).length = o.length + 1 := by simp; omega
            have hj : o.length < (cs ++ [(0 : Int)]).length := by omega
            obtain ⟨gg, cc, u, hv2, hBg, hglt, hcu, hfu, hum, hput⟩ := C2.out.put hj
            subst hv2
            have hdi : (o ++ [y])[o.length]? = some y := by simp
            have hcn := cnts_at (l := S.take k) hdi
            rw [hc0] at hcn
            have hu : u = ((S.take k).count y : Int) := by
              have h1 := hum.out; rw [hcn] at h1; injection h1 with h1; exact h1.symm
            have hub : (S.take k).count y ≤ 256 := by have := List.count_le_length (a := y) (l := S.take k); simp at this; omega
            have hu1 : 0 ≤ u := by omega
            have hu2 : u ≤ 256 := by omega
            have hC3 := hput (u + 1)
            have hst := cnts_step (l := S.take k) (d := (o ++ [y])) (by have := grp_spec (k + 1) HPW.out; rw [he2] at this; exact this.1) hdi
            have htk : S.take k ++ [y] = S.take (k + 1) := by rw [List.take_add_one, hyk.out]; rfl
            rw [hc0, ← hu, htk] at hst
            have HST := hid hst.symm
            have hne3 : Value.ownBlock v1 ≠ some gg := fun h => AP2.out gg h rfl
            have O3 := hid (O2.out.setOther hne3 o.length (.int .i64 (u + 1)))
            have W3 := hid (W2.out.setCell (p := ⟨gg, o.length, none⟩) hBg (.int .i64 (u + 1)))
            have HE2 := hid he2
            have hsub : (((cs ++ [(0 : Int)]).length : Nat) : Int) - 1 = ((o.length : Nat) : Int) := by omega
            have hi1 : ((o.length : Nat) : Int) < (((cs ++ [(0 : Int)]).length : Nat) : Int) := by omega
            have hi0 : (0 : Int) ≤ ((o.length : Nat) : Int) := by omega
            clear hput hum hcn hu hub hst htk hdi he2 hc0 hne3 hBg
            go_wp2
            exact ⟨⟨k + 1, by omega, by go_num, _, _, HE2, HST, O3, hC3, AP2, W3⟩, by simp [intOf]; omega⟩
      · have hi : ¬ (k : Int) < (S.length : Int) := by omega
        have he := ho.out
        rw [List.take_of_length_le (by omega)] at he
        have he2 := hc.out
        rw [List.take_of_length_le (by omega)] at he2
        have HE := hid he
        have HE2 := hid he2
        clear he he2 ho hc
        go_wp2
        go_ret3
        obtain ⟨A3, c3, rfl, hoS⟩ := hO.out.ownS
        obtain ⟨A4, c4, rfl, hcS⟩ := hC.out.ownS
        rw [show grp S = o from HE.out, show cnts o S = cs from HE2.out]
        have hsz := WS.out.size
        exact ⟨A3, c3, A4, c4, rfl, hoS.mono hsz, by show o.length ≤ _; omega, hcS.mono hsz, by show cs.length ≤ _; omega, aptV_apart hap.out, WS.out.trans (hW.out.mono hsz)⟩
end Go.Proofs.Ytmafkkpdcajfoaa
