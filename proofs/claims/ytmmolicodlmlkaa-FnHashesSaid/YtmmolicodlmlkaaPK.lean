/-
  Parts of the proof: Facts of slices: from company into the lone world, and back. An own row of numbers takes a number: all its cells, the spare ones too, stay numbers. A row of RowsShared, alone: all but its store. A row of RowsShared, alone: the run up to its store. A piece of a region, walked alone up to an operation, made in company by a worker; one block is named alone. The work of RowsShared, as sharedWork asks for it: rows that stand, what is read, what is done for one number. The work of RowsShared for one number, in a worker. The work of RowsShared for one number: from its call to its return; the whole as No condition.
-/
import Derived.Test.YtmmolicodlmlkaaPD
import Derived.Test.YtmmolicodlmlkaaPG
import Derived.Test.YtmmolicodlmlkaaPF
import Derived.Test.YtmmolicodlmlkaaPC
set_option linter.unusedVariables false
set_option linter.unusedSimpArgs false
namespace Go.Proofs.Ytmmolicodlmlkaa.Rel
open Go.Conc (G base)
open Go.Proofs.Ytmmolicodlmlkaa (RdL OwnS Blk)
set_option linter.unusedVariables false

theorem okV_undef (Fs : Fns) (B : Nat) : okV Fs B undef = true := by unfold undef; rw [okV_tuple]; simp
section
variable {P : Program} {Fs : Fns} {v w wl : World} {Rd S0 S : Nat → Prop} {ρ : Rn} {α : Type} {f : α → Value} {A : Option Addr} {xs : List α} {t : TypeId}
/-- New blocks may be named and written. -/
theorem fnsOf_new {fs : FuncId → Bool} {al wr : Nat → Prop} {b : Nat} (h : v.heap.size ≤ b) : (fnsOf fs v al wr).al b = true ∧ (fnsOf fs v al wr).wr b = true := by
  have : ¬ b < v.heap.size := by omega
  simp [fnsOf, this]
theorem fnsOf_old {fs : FuncId → Bool} {al wr : Nat → Prop} {b : Nat} (h : b < v.heap.size) (ha : al b) (hp : plainO v.heap[b]? = true) : (fnsOf fs v al wr).al b = true := by
  simp only [fnsOf, h, if_true, ha, decide_true, hp, Bool.and_self]
/-- A slice that the lone call has made, in company. -/
theorem Left.own (h : Left P Fs v Rd S0 ρ wl S w) (hnew : ∀ b, v.heap.size ≤ b → Fs.al b = true) (hf : ∀ x, ren ρ (f x) = f x) (ho : OwnS f wl v.heap.size t A xs) :
    OwnS f w v.heap.size t (A.map (renS ρ)) xs ∧ ∀ b o, xs ≠ [] → A.map (renS ρ) = some ⟨b, o, none⟩ → S b := by
  by_cases hx : xs = []
  · exact ⟨fun h => absurd hx h, fun b o h => absurd hx h⟩
  obtain ⟨g, ex, rfl, hg, hb⟩ := ho hx
  have hlt : g < wl.heap.size := hb.lt
  have hbr := h.wr.blk g hlt (hnew g hg)
  obtain ⟨ol, oc, h1, h2, h3⟩ := hbr
  have hb' : wl.heap[g]? = some (.cells (xs.map f ++ ex).toArray t (0, 0)) := hb
  rw [hb'] at h1
  have h1 := Option.some.inj h1
  subst h1
  have hne : (xs.map f ++ ex).toArray ≠ #[] := by
    intro e
    have := congrArg Array.toList e
    simp at this
    exact hx this.1
  refine ⟨fun _ => ⟨ρ.f g, ex.map (ren ρ), rfl, h.new g hg, ?_⟩, fun b o _ e => ?_⟩
  · show w.heap[ρ.f g]? = _
    rw [show w.heap[ρ.f g]? = some oc from h2]
    generalize hc : (xs.map f ++ ex).toArray = c at h3 hne
    generalize ho : Obj.cells c t (0, 0) = o at h3
    have hm : (xs.map f ++ ex.map (ren ρ)).toArray = c.map (ren ρ) := by
      rw [← hc]
      simp only [List.map_toArray, List.map_append, List.map_map]
      congr 2
      exact List.map_congr_left fun x _ => (hf x).symm
    cases h3 with
    | cells hw hcc => injection ho with e1 e2; subst e1; subst e2; rw [hm]
    | ro hcc _ => injection ho with e1 e2 e3; subst e1; exfalso; injection e3 with _ e4; exact hne (Array.eq_empty_of_size_eq_zero e4.symm)
    | bad => injection ho with e1; exact absurd e1 hne
    | dull hd => cases oc <;> simp [stand] at ho hd
    | number => cases ho
    | map => cases ho
  · injection e with e
    injection e with e1
    exact (h.mine b).2 (.inr ⟨g, hg, hlt, e1⟩)
/-- A block that may be read as it stands. -/
def Clean (Fs : Fns) (v : World) (b : Nat) : Prop := ∃ c e, v.heap[b]? = some (.cells c e (0, 0)) ∧ ∀ x ∈ c, okV Fs v.heap.size x = true
theorem Clean.cell {a : Addr} (h : Clean Fs v a.block) (hn : Fs.na a.block = false) (ha : Fs.al a.block = true) : (loneW Fs v).cell? a = v.cell? a :=
  let ⟨_, _, h1, h2⟩ := h
  loneW_cell h1 hn ha h2
/-- .. whatever else lies beside it. -/
theorem rdl_look (h : RdL f v A xs) (hf : ∀ x, okV Fs v.heap.size (f x) = true) (hc : ∀ b o, xs ≠ [] → A = some ⟨b, o, none⟩ → Fs.na b = false ∧ Fs.al b = true ∧ Fs.wr b = false) : RdL f (loneW Fs v) A xs := by
  intro j hj
  obtain ⟨b, o, hA, hcell⟩ := h j hj
  obtain ⟨h0, h1, h2⟩ := hc b o (by intro e; subst e; simp at hj) hA
  exact ⟨b, o, hA, loneW_at (a := ⟨b, o + j, none⟩) hcell h0 h1 h2 (hf _)⟩
/-- Numbers alone. -/
def Ints (v : World) (b : Nat) : Prop := ∃ c e, v.heap[b]? = some (.cells c e (0, 0)) ∧ ∀ x ∈ c, ∃ i, x = .int .i64 i
theorem Ints.clean {b : Nat} (h : Ints v b) : Clean Fs v b :=
  let ⟨c, e, h1, h2⟩ := h
  ⟨c, e, h1, fun x hx => by obtain ⟨i, rfl⟩ := h2 x hx; simp⟩
theorem Ints.plain {b : Nat} (h : Ints v b) : plainO v.heap[b]? = true := by
  obtain ⟨c, e, h1, _⟩ := h
  rw [h1]; rfl
@[simp] theorem renS_lit (ρ : Rn) (b o : Nat) : renS ρ ⟨b, o, none⟩ = ⟨ρ.f b, o, none⟩ := rfl
/-- .. at a place of its own. -/
def IntsA (v : World) (a : Addr) : Prop := Ints v a.block ∧ a.spot = none
/-- A block that may be looked at, at a place of its own. -/
def Plz (v : World) (a : Addr) : Prop := plainO v.heap[a.block]? = true ∧ a.spot = none
theorem Ints.stay {b : Nat} (h : Ints v b) (hs : w.heap[b]? = v.heap[b]?) : Ints w b :=
  let ⟨c, e, h1, h2⟩ := h
  ⟨c, e, hs.trans h1, h2⟩
theorem IntsA.stay {a : Addr} (h : IntsA v a) (hs : w.heap[a.block]? = v.heap[a.block]?) : IntsA w a := ⟨h.1.stay hs, h.2⟩
theorem IntsA.plz {a : Addr} (h : IntsA v a) : Plz v a := ⟨h.1.plain, h.2⟩
theorem IntsA.plain {a : Addr} (h : IntsA v a) : plainO v.heap[a.block]? = true := h.1.plain
theorem Plz.stay {a : Addr} (h : Plz v a) (hs : w.heap[a.block]? = v.heap[a.block]?) : Plz w a := ⟨by rw [hs]; exact h.1, h.2⟩
end
end Go.Proofs.Ytmmolicodlmlkaa.Rel
namespace Go.Proofs.Ytmmolicodlmlkaa
open Go.RowKit
open Go.Proofs.Ytmmolicodlmlkaa.Rel (Ints)
set_option linter.unusedVariables false

/-- The block of an own slice holds numbers alone. -/
def IntsV (w : World) (v : Value) : Prop := ∀ g, v.ownBlock = some g → Ints w g
theorem IntsV.made {w : World} {e : TypeId} : IntsV (w.alloc (.cells #[] e)) (.slice (some ⟨w.heap.size, 0, none⟩) 0 0) := fun g hg => by
  obtain rfl : w.heap.size = g := by injection hg
  exact ⟨#[], e, heap_alloc_new w _, by simp⟩
theorem IntsV.alloc {w : World} {v : Value} (h : IntsV w v) (o : Obj) : IntsV (w.alloc o) v := fun g hg => by
  obtain ⟨c, e, h1, h2⟩ := h g hg
  exact ⟨c, e, (heap_alloc_old w o (Array.getElem?_eq_some_iff.1 h1).1).trans h1, h2⟩
theorem zero_ints {n : Nat} : ∀ x ∈ Builtin.zeroCells #[Value.int .i64 0] n, ∃ i, x = .int .i64 i := by
  intro x hx
  simp [Builtin.zeroCells, Nat.mod_one] at hx
  obtain ⟨_, _, rfl⟩ := hx
  exact ⟨0, rfl⟩
theorem run_append_ints {P : Program} (w : World) (base : Nat) (t ty e : TypeId) (i : TypeInfo) (ht : P.underlying t = some (.slice e)) (hi : P.info? e = some i) (hz : i.zero = some (.int .i64 0)) (hsize : i.size = 1) (hby : i.bytes = 8)
    (v : Value) (n : Nat) (xs : List Value) (hown : w.ownsRow base e 1 v n xs) (hv : IntsV w v) (a : Addr) (c : Nat) (h : Int) (hc : w.cell? a = some (.int .i64 h)) (h63 : n + 1 ≤ maxLen) (hbytes : (n + 1) * 8 ≤ 140737488355328) (hbase : base ≤ w.heap.size) :
    ∃ v' w', (Builtin.append_ #[t, t] ty #[v, .slice (some a) 1 c]).run P w = .ok v' w' ∧ w'.ownsRow base e 1 v' (n + 1) (xs ++ [.int .i64 h]) ∧ w.grownBy w' v.ownBlock ∧ IntsV w' v' := by
  have hnews : ∀ j u, [Value.int .i64 h][j]? = some u → w.cell? (a.add j) = some u := by
    intro j u hu
    cases j with
    | zero =>
      simp at hu
      subst hu
      rw [show a.add 0 = a from by unfold Addr.add; cases a; simp]
      exact hc
    | succ j => simp at hu
  obtain ⟨v', w', hr, h2, h3, h4⟩ := run_append_own (P := P) w base t ty e i (.int .i64 0) 1 8 ht hi hz hsize hby rfl (by decide) v n xs hown a 1 c [.int .i64 h] rfl hnews (by intro u hu; simp at hu; subst hu; rfl) h63 hbytes hbase
  refine ⟨v', w', hr, h2, h3, fun g' hg' => ?_⟩
  have hz1 : (Value.int IntKind.i64 0).cells = #[Value.int .i64 0] := rfl
  have hx0 : ∀ x ∈ xs, ∃ k, x = Value.int .i64 k := by
    intro x hx
    rcases hown.2 with ⟨rfl, rfl⟩ | ⟨g, cap, cur, rfl, hbg, hg, hnc, hcm, hcs, htake⟩
    · have : xs = [] := List.eq_nil_of_length_eq_zero (by simpa using hown.1)
      subst this
      simp at hx
    · obtain ⟨c0, e0, q1, q2⟩ := hv g rfl
      rw [hg] at q1
      injection q1 with q1
      injection q1 with q1
      subst q1
      exact q2 x (by rw [← htake] at hx; simpa using List.mem_of_mem_take hx)
  have grown : ∀ k, ∀ x ∈ xs.toArray ++ [Value.int .i64 h].toArray ++ Builtin.zeroCells #[Value.int .i64 0] k, ∃ i, x = .int .i64 i := by
    intro k x hx
    rcases Array.mem_append.1 hx with hx | hx
    · rcases Array.mem_append.1 hx with hx | hx
      · exact hx0 x (by simpa using hx)
      · simp at hx; exact ⟨_, hx⟩
    · exact zero_ints x hx
  have hm : (n + 1 : Nat) ≤ 9223372036854775807 := by simp only [maxLen] at h63; omega
  rcases hown.2 with ⟨rfl, rfl⟩ | ⟨g, cap, cur, rfl, hbg, hg, hnc, hcm, hcs, htake⟩
  · have hx : xs = [] := List.eq_nil_of_length_eq_zero (by simpa using hown.1)
    subst hx
    have hr2 := run_append_nil (P := P) w t ty e i (.int .i64 0) ht hi hz a 1 c [.int .i64 h] (by rw [hsize]; rfl) hnews (by omega) (by omega) (by rw [hby]; omega)
    rw [hr] at hr2
    injection hr2 with e1 e2
    subst e1; subst e2
    obtain rfl : w.heap.size = g' := by injection hg'
    exact ⟨_, e, heap_alloc_new w.drew _, by
      have := grown (grownCap w 1 0 e - 1)
      rw [hz1]
      simpa using this⟩
  · by_cases hroom : n + 1 ≤ cap
    · have hr2 := run_append_room (P := P) w t ty e i ht hi g n cap cur hg a 1 c [.int .i64 h] (by rw [hsize]; rfl) hnews (by intro u hu; simp at hu; subst hu; rfl) hroom (by rw [hsize]; simp; omega)
      rw [hr] at hr2
      injection hr2 with e1 e2
      subst e1; subst e2
      obtain rfl : g = g' := by injection hg'
      refine ⟨_, e, setRow_heap w g cur _ e _ hg, fun x hx => ?_⟩
      obtain ⟨c0, e0, q1, q2⟩ := hv g rfl
      rw [hg] at q1
      injection q1 with q1
      injection q1 with q1
      subst q1
      simp only [List.append_assoc, List.mem_toArray, List.mem_append, List.mem_cons, List.not_mem_nil, or_false] at hx
      rcases hx with hx | hx | hx
      · exact q2 x (by simpa using List.mem_of_mem_take hx)
      · exact ⟨_, hx⟩
      · exact q2 x (by simpa using List.mem_of_mem_drop hx)
    · have holds : ∀ j u, xs[j]? = some u → w.cell? ((⟨g, 0, none⟩ : Addr).add j) = some u := hown.cells (g := g) rfl
      have hr2 := run_append_grow (P := P) w t ty e i (.int .i64 0) ht hi hz ⟨g, 0, none⟩ n cap xs (by rw [hsize]; exact hown.1) holds a 1 c [.int .i64 h] (by rw [hsize]; rfl) hnews (by omega) (by omega) (growslice_fits (by omega) (by rw [hby]; exact hbytes))
      rw [hr] at hr2
      injection hr2 with e1 e2
      subst e1; subst e2
      obtain rfl : w.heap.size = g' := by injection hg'
      exact ⟨_, e, heap_alloc_new w.drew _, grown _⟩
/-- .. in the walk. -/
theorem wpList_append_ints {P : Program} {w : World} {ops : Array Oper} {rest : List Oper} {o : Oper} {a : Act} {Q : Exit → Act → World → Prop} (hgd : o.guard = none) (s x : Operand) (t : TypeId)
    (ho : o.op = .call { callee := .builtin .append, args := #[s, x], argTypes := #[t, t] }) (base : Nat) (e : TypeId) (i : TypeInfo) (ht : P.underlying t = some (.slice e)) (hi : P.info? e = some i) (hz : i.zero = some (.int .i64 0)) (hsize : i.size = 1) (hby : i.bytes = 8)
    (v : Value) (n : Nat) (xs : List Value) (hs : a.eval s = v) (hown : w.ownsRow base e 1 v n xs) (hv : IntsV w v) (ad : Addr) (c : Nat) (h : Int) (hx : a.eval x = .slice (some ad) 1 c) (hc : w.cell? ad = some (.int .i64 h)) (h63 : n + 1 ≤ maxLen) (hbytes : (n + 1) * 8 ≤ 140737488355328) (hbase : base ≤ w.heap.size)
    (hk : ∀ v' w', w'.ownsRow base e 1 v' (n + 1) (xs ++ [.int .i64 h]) → w.grownBy w' v.ownBlock → IntsV w' v' → wpList P ops Q rest (a.put o.dst v') w') : wpList P ops Q (o :: rest) a w := by
  refine wpList_plain hgd fun _ hK => ?_
  obtain ⟨v', w', hr, h2, h3, h4⟩ := run_append_ints (P := P) w base t o.type e i ht hi hz hsize hby v n xs hown hv ad c h hc h63 hbytes hbase
  unfold Oper.wp execOp
  simp only [ho, resolve, invoke, builtin, Sem.run_bind, Sem.run_pure, Result.andThen_ok, List.map_toArray, List.map_cons, List.map_nil, hs, hx, hr]
  exact hK _ _ (hk v' w' h2 h3 h4)
end Go.Proofs.Ytmmolicodlmlkaa
namespace Go.Proofs.Ytmmolicodlmlkaa
open Go.RowKit
open Go.Proofs.Ytmmolicodlmlkaa.Rel (Ints IntsA ops_upto lastOk lastOk_sound linearise_same)
set_option linter.unusedVariables false
set_option linter.unusedSimpArgs false

/-- A list that is returned in a block of the call's own, which holds just it. -/
def RetLN {α : Type} (f : α → Value) (t : TypeId) (w : World) (xs : List α) (e : Ending) (w' : World) : Prop :=
  ∃ A c, e = .returned (.slice A xs.length c) ∧ OwnS f w' w.heap.size t A xs ∧ (∀ a, A = some a → w.heap.size ≤ a.block ∧ IntsA w' a) ∧ Below w.heap.size w w'
theorem ownS_of_rowN {α : Type} {f : α → Value} {w : World} {B : Nat} {e : TypeId} {v : Value} {n : Nat} {xs : List α} (h : w.ownsRow B e 1 v n (xs.map f)) (hI : IntsV w v) (hl : xs.length = n) :
    ∃ A c, v = .slice A xs.length c ∧ OwnS f w B e A xs ∧ ∀ a, A = some a → B ≤ a.block ∧ IntsA w a := by
  have h0 := h
  subst hl
  obtain ⟨A, c, hv, ho⟩ := ownS_of_row h0 rfl
  refine ⟨A, c, hv, ho, fun a ha => ?_⟩
  obtain ⟨hn, h | ⟨g, cap, cur, hv', hB, hg, hc, hm, hs, ht⟩⟩ := h
  · rw [h.1] at hv
    injection hv with h1
    rw [ha] at h1
    cases h1
  · rw [hv'] at hv
    injection hv with h1
    rw [ha] at h1
    injection h1 with h1
    subst h1
    exact ⟨hB, hI _ (by rw [hv']; rfl), rfl⟩
set_option maxRecDepth 100000 in
set_option maxHeartbeats 1600000 in
theorem hashRow_own (A : Option Addr) (c : Nat) (x : List Int) (salt : Nat) (w : World) (hx : RdL (Value.int .i64) w A x) (hn : x.length ≤ 256) (hbd : ∀ y ∈ x, 0 ≤ y ∧ y ≤ 4294967295) (hs : salt < 4294967296) :
    Calls Try.prog 83 #[.slice A x.length c, .int .i64 salt] w (RetLN (Value.int .i64) 2 w (rowH x salt x.length)) := by
  obtain ⟨i0, hi0, hz0, hz1, hz2⟩ := info_parts Try.infoI
  have HX := hid hx
  have HBD := hid hbd
  clear hx hbd
  go_enter Try.func83, Try.ntmps83
  go_wp2
  go_loopw [5, 7, 11] (fun v e_ i wr => ∃ k : Nat, k ≤ x.length ∧ i = .int .i64 k ∧ Hid (wr.ownsRow w.heap.size 2 1 v k ((rowH x salt k).map (Value.int .i64))) ∧ Hid (IntsV wr v) ∧ Hid (Below w.heap.size w wr)) (fun _ e_ i _ => x.length - (intOf i).toNat)
  case atStart => exact ⟨0, Nat.zero_le _, rfl, World.ownsRow_made w #[] 0 (Nat.le_refl _) (Nat.zero_le _) rfl, IntsV.made, below_a1 _ _⟩
  case round =>
    obtain ⟨k, hkr, rfl, hown, hI, hW⟩ := hrel
    by_cases hlt : k < x.length
    · have hi : (k : Int) < (x.length : Int) := by omega
      obtain ⟨b, o, y, rfl, hcy, hyk⟩ := (HX.out.below hW.out).at_ hlt
      have hyb := HBD.out y (List.mem_of_getElem? hyk.out)
      obtain ⟨yn, rfl⟩ := Int.eq_ofNat_of_zero_le hyb.1
      have hyl : yn < 4294967296 := by omega
      obtain ⟨hv, hve⟩ : ∃ h, h = hashN yn salt := ⟨_, rfl⟩
      have HV : Hid (hashAt x salt k = hv) := by show _ = _; unfold hashAt; rw [getD_of hyk, hve]; simp
      have C1 : Hid (∀ w, Calls Try.prog 111 #[.int .i64 (yn : Int), .int .i64 (salt : Int)] w fun e w'' => e = .returned (.int .i64 hv) ∧ w = w'') := fun w => (ihash_any yn salt w hyl hs).mono fun _ _ ⟨h, h'⟩ => ⟨by rw [h, hve], h'⟩
      clear hve hyb
      go_wp2_with (first | (go_at_call 111; refine (C1.out _).mono ?_; rintro e w' ⟨rfl, rfl⟩) | (at_builtin; refine wpList_append_ints rfl _ _ 22 rfl w.heap.size 2 i0 Try.underlying22 hi0 hz0 hz1 hz2 _ _ _ rfl (hown.out.alloc _) (hI.out.alloc _) ⟨wr.heap.size, 0, none⟩ 1 hv rfl ?c1 ?c3 ?c4 ?c5 ?_))
      case c1 => have := cell_one_new wr (Value.int .i64 hv) 2 0 _ rfl; simp
      case c3 => simp only [maxLen]; omega
      case c4 => omega
      case c5 => have := hW.out.size; simp; omega
      intro v' w1 hown' hgrow hI'
      have I1 := hid hI'
      clear hI'
      have hd : (rowH x salt k).map (Value.int .i64) ++ [Value.int .i64 hv] = (rowH x salt (k + 1)).map (Value.int .i64) := by rw [rowH_succ, HV.out]; simp
      rw [hd] at hown'
      have O1 := hid hown'
      have W1 : Hid (Below w.heap.size w w1) := (hW.out.alloc hW.out.size _).grown hgrow (by have := hW.out.size; simp; omega) (fun g hg => (hown.out.alloc (.cells #[.int .i64 hv] 2)).lt g hg |>.1)
      clear hown' hgrow hd
      go_wp2
      exact ⟨⟨k + 1, by omega, by go_num, O1, I1, W1⟩, by simp [intOf]; omega⟩
    · have hi : ¬ (k : Int) < (x.length : Int) := by omega
      obtain rfl : k = x.length := by omega
      go_wp2
      go_ret
      obtain ⟨A', c', hv, ho, hn'⟩ := ownS_of_rowN hown.out hI.out (rowH_length _ _ _)
      exact ⟨A', c', congrArg Ending.returned hv, ho, hn', hW.out⟩
set_option maxRecDepth 100000 in
set_option maxHeartbeats 4000000 in
/-- Whatever the order, all but the store. -/
theorem row_any (A : Option Addr) (c : Nat) (x : List Int) (A2 : Option Addr) (c2 : Nat) (sl : List Int) (C n i s bk bs bo : Nat) (w : World) (hx : RdL (Value.int .i64) w A x) (hn : x.length ≤ 256) (hbd : ∀ y ∈ x, 0 ≤ y ∧ y ≤ 4294967295)
    (hk : w.cell? ⟨bk, 0, none⟩ = some (.slice A x.length c)) (hs : w.cell? ⟨bs, 0, none⟩ = some (.slice A2 sl.length c2)) (ho : w.cell? ⟨bo, 0, none⟩ = some (.slice (some ⟨C, 0, none⟩) n n))
    (hi : i < n) (hin : n ≤ 4294967295) (b2 o2 : Nat) (hA2 : A2 = some ⟨b2, o2, none⟩) (his : i < sl.length) (hsc : w.cell? ⟨b2, o2 + i, none⟩ = some (.int .i64 s)) (hs32 : s < 4294967296)
    (Q : Act → World → Prop)
    (hQ : ∀ A' c' t0 t5 t6 t7 t8 t9 t10 t11 w', OwnS (Value.int .i64) w' w.heap.size 2 A' (rowH x s x.length) → (∀ a, A' = some a → w.heap.size ≤ a.block ∧ IntsA w' a) → Below w.heap.size w w' → Q ⟨#[t0, ptrB bk, ptrB bs, ptrB bo, undef, t5, t6, t7, t8, t9, t10, t11, .slice A' x.length c', .pointer (some ⟨C, i, none⟩)], []⟩ w') :
    wpAnyH Try.prog .any rowOps' (fun e a w => e = .normal ∧ Q a w) (fun w' : World => w'.cell? ⟨bk, 0, none⟩ = some (.slice A x.length c) ∧ w'.cell? ⟨bs, 0, none⟩ = some (.slice A2 sl.length c2) ∧ w'.cell? ⟨bo, 0, none⟩ = some (.slice (some ⟨C, 0, none⟩) n n) ∧ w'.cell? ⟨b2, o2 + i, none⟩ = some (.int .i64 s)) 10 (Array.replicate 10 false) ⟨#[.int .i64 i, ptrB bk, ptrB bs, ptrB bo, undef, undef, undef, undef, undef, undef, undef, undef, undef, undef], []⟩ w := by
  simp only [rowOps', rowOps, Try.f82, List.modify_toArray, List.modify_succ_cons, List.modify_zero_cons]
  subst hA2
  have hS : (fun w' : World => w'.cell? ⟨bk, 0, none⟩ = some (.slice A x.length c) ∧ w'.cell? ⟨bs, 0, none⟩ = some (.slice (some ⟨b2, o2, none⟩) sl.length c2) ∧ w'.cell? ⟨bo, 0, none⟩ = some (.slice (some ⟨C, 0, none⟩) n n) ∧ w'.cell? ⟨b2, o2 + i, none⟩ = some (.int .i64 s)) w := ⟨hk, hs, ho, hsc⟩
  have hi1 : (i : Int) < (n : Int) := by omega
  have hi2 : (i : Int) < (sl.length : Int) := by omega
  refine wpAnyH_take (i := 0) (v := ?_) rfl (by kernel_rfl) (by kernel_rfl) (by kernel_rfl) (fun _ _ _ h => absurd h.1 (by simp)) (Or.inl ⟨by rfl, ?_⟩) (by assumption) ?_
  rotate_left
  · intro w hSw
    (try dsimp only at hSw)
    obtain ⟨q1, q2, q3, q4⟩ := hSw
    go_simp
    all_goals with_reducible rfl
  try simp only [Act.put, List.setIfInBounds_toArray, List.set_cons_zero, List.set_cons_succ, List.getElem_toArray, List.getElem_cons_succ, List.getElem_cons_zero]
  refine wpAnyH_take (i := 1) (v := ?_) rfl (by kernel_rfl) (by kernel_rfl) (by kernel_rfl) (fun _ _ _ h => absurd h.1 (by simp)) (Or.inl ⟨by rfl, ?_⟩) (by assumption) ?_
  rotate_left
  · intro w hSw
    (try dsimp only at hSw)
    obtain ⟨q1, q2, q3, q4⟩ := hSw
    go_simp
    all_goals with_reducible rfl
  try simp only [Act.put, List.setIfInBounds_toArray, List.set_cons_zero, List.set_cons_succ, List.getElem_toArray, List.getElem_cons_succ, List.getElem_cons_zero]
  refine wpAnyH_take (i := 2) (v := ?_) rfl (by kernel_rfl) (by kernel_rfl) (by kernel_rfl) (fun _ _ _ h => absurd h.1 (by simp)) (Or.inl ⟨by rfl, ?_⟩) (by assumption) ?_
  rotate_left
  · intro w hSw
    (try dsimp only at hSw)
    obtain ⟨q1, q2, q3, q4⟩ := hSw
    go_simp
    all_goals with_reducible rfl
  try simp only [Act.put, List.setIfInBounds_toArray, List.set_cons_zero, List.set_cons_succ, List.getElem_toArray, List.getElem_cons_succ, List.getElem_cons_zero]
  refine wpAnyH_take (i := 3) (v := ?_) rfl (by kernel_rfl) (by kernel_rfl) (by kernel_rfl) (fun _ _ _ h => absurd h.1 (by simp)) (Or.inl ⟨by rfl, ?_⟩) (by assumption) ?_
  rotate_left
  · intro w hSw
    (try dsimp only at hSw)
    obtain ⟨q1, q2, q3, q4⟩ := hSw
    go_simp
    all_goals with_reducible rfl
  try simp only [Act.put, List.setIfInBounds_toArray, List.set_cons_zero, List.set_cons_succ, List.getElem_toArray, List.getElem_cons_succ, List.getElem_cons_zero]
  refine wpAnyH_take (i := 4) (v := ?_) rfl (by kernel_rfl) (by kernel_rfl) (by kernel_rfl) (fun _ _ _ h => absurd h.1 (by simp)) (Or.inl ⟨by rfl, ?_⟩) (by assumption) ?_
  rotate_left
  · intro w hSw
    (try dsimp only at hSw)
    obtain ⟨q1, q2, q3, q4⟩ := hSw
    go_simp
    all_goals with_reducible rfl
  try simp only [Act.put, List.setIfInBounds_toArray, List.set_cons_zero, List.set_cons_succ, List.getElem_toArray, List.getElem_cons_succ, List.getElem_cons_zero]
  refine wpAnyH_take (i := 5) (v := ?_) rfl (by kernel_rfl) (by kernel_rfl) (by kernel_rfl) (fun _ _ _ h => absurd h.1 (by simp)) (Or.inl ⟨by rfl, ?_⟩) (by assumption) ?_
  rotate_left
  · intro w hSw
    (try dsimp only at hSw)
    obtain ⟨q1, q2, q3, q4⟩ := hSw
    go_simp
    all_goals with_reducible rfl
  try simp only [Act.put, List.setIfInBounds_toArray, List.set_cons_zero, List.set_cons_succ, List.getElem_toArray, List.getElem_cons_succ, List.getElem_cons_zero]
  refine wpAnyH_take (i := 6) (v := ?_) rfl (by kernel_rfl) (by kernel_rfl) (by kernel_rfl) (fun _ _ _ h => absurd h.1 (by simp)) (Or.inl ⟨by rfl, ?_⟩) (by assumption) ?_
  rotate_left
  · intro w hSw
    (try dsimp only at hSw)
    obtain ⟨q1, q2, q3, q4⟩ := hSw
    go_simp
    all_goals with_reducible rfl
  try simp only [Act.put, List.setIfInBounds_toArray, List.set_cons_zero, List.set_cons_succ, List.getElem_toArray, List.getElem_cons_succ, List.getElem_cons_zero]
  refine wpAnyH_ready (rs := [7]) (by kernel_rfl) (by simp) ?_
  refine AllReadyH.cons rfl (fun K hK => ?_) AllReadyH.nil
  rw [if_pos (by rfl)]
  simp only [List.getElem_toArray, List.getElem_cons_succ, List.getElem_cons_zero]
  go_simp
  go_at_call 83
  refine (hashRow_own A c x s w hx hn hbd hs32).mono ?_
  rintro e w' ⟨A', c', rfl, hown, hnw, hb⟩
  rw [rowH_length]
  have low : ∀ {a : Addr} {v : Value}, w.cell? a = some v → w'.cell? a = some v := fun {a v} h => (hb.cell (World.block_lt_of_cell? w _ h)).trans h
  have hS2 : (fun w' : World => w'.cell? ⟨bk, 0, none⟩ = some (.slice A x.length c) ∧ w'.cell? ⟨bs, 0, none⟩ = some (.slice (some ⟨b2, o2, none⟩) sl.length c2) ∧ w'.cell? ⟨bo, 0, none⟩ = some (.slice (some ⟨C, 0, none⟩) n n) ∧ w'.cell? ⟨b2, o2 + i, none⟩ = some (.int .i64 s)) w' := ⟨low hk, low hs, low ho, low hsc⟩
  refine hK _ _ hS2 (fun hHeld => ?_)
  clear hK K hS
  try simp only [Act.put, List.setIfInBounds_toArray, List.set_cons_zero, List.set_cons_succ, List.getElem_toArray, List.getElem_cons_succ, List.getElem_cons_zero]
  refine wpAnyH_take (i := 8) (v := ?_) rfl (by kernel_rfl) (by kernel_rfl) (by kernel_rfl) (fun _ _ _ h => absurd h.1 (by simp)) (Or.inl ⟨by rfl, ?_⟩) (by assumption) ?_
  rotate_left
  · intro w hSw
    (try dsimp only at hSw)
    obtain ⟨q1, q2, q3, q4⟩ := hSw
    go_simp
    all_goals with_reducible rfl
  try simp only [Act.put, List.setIfInBounds_toArray, List.set_cons_zero, List.set_cons_succ, List.getElem_toArray, List.getElem_cons_succ, List.getElem_cons_zero]
  refine wpAnyH_take (i := 9) (v := ?_) rfl (by kernel_rfl) (by kernel_rfl) (by kernel_rfl) (fun _ _ _ h => absurd h.1 (by simp)) (Or.inl ⟨by rfl, ?_⟩) (by assumption) ?_
  rotate_left
  · intro w hSw
    (try dsimp only at hSw)
    obtain ⟨q1, q2, q3, q4⟩ := hSw
    go_simp
    all_goals with_reducible rfl
  try simp only [Act.put, List.setIfInBounds_toArray, List.set_cons_zero, List.set_cons_succ, List.getElem_toArray, List.getElem_cons_succ, List.getElem_cons_zero]
  refine wpAnyH_done (by kernel_rfl) ⟨rfl, ?_⟩ _
  exact hQ _ _ _ _ _ _ _ _ _ _ _ hown hnw hb
end Go.Proofs.Ytmmolicodlmlkaa
namespace Go.Proofs.Ytmmolicodlmlkaa
open Go.RowKit
open Go.Proofs.Ytmmolicodlmlkaa.Rel (ops_upto lastOk lastOk_sound linearise_same)
open Go.Conc (base enter_at)
set_option linter.unusedVariables false
set_option linter.unusedSimpArgs false

theorem row_guard : rowOps.all (fun o => o.guard.isNone) = true := by kernel_rfl
theorem row_mixed : Try.prog.follows .mixedOrders = true := by kernel_rfl
theorem row_body : Try.f82.body = some (.region 0 rowOps true) := rfl
theorem row_store' : rowOps'[9]? = some { dst := none, op := .move (.const (.bool true)), type := 0, pos := "l02_hashes.go:183", after := (rowOps[9]?.map Oper.after).getD #[], guard := none } := by kernel_rfl
/-- The lone run of a region that draws its order, up to its last operation. -/
theorem row_run {Q : Act → World → Prop} {S : World → Prop} {a : Act} {w : World} (h : wpAnyH Try.prog .any rowOps' (fun e a w => e = .normal ∧ Q a w) S 10 (Array.replicate 10 false) a { w with drawn := w.drawn + 1 }) (b : Frame) (cs : List Frame) :
    ∃ a' w', Q a' w' ∧ Steps Try.prog (lone (b.at a [.code (.region 0 rowOps true)]) cs w) (lone (b.at a' [.inRegion rowOps [9]]) cs w') := by
  have hd := step_region_draw (P := Try.prog) (b := b) (a := a) (k := []) (cs := cs) (w := w) (ops := rowOps) (id := 0)
  have hsch : Region.schedule (Try.prog.follows .mixedOrders) rowOps (w.tape w.drawn (.order b.fn 0)) = Region.linearise.go .any rowOps 10 (w.tape w.drawn (.order b.fn 0)) (Array.replicate 10 false) [] := by
    rw [row_mixed]
    show Region.linearise.go .any rowOps rowOps.size _ (Array.replicate rowOps.size false) [] = _
    rw [row_size]
  rw [hsch] at hd
  obtain ⟨l, hl, hnl⟩ := lastOk_sound 10 _ row_last (w.tape w.drawn (.order b.fn 0))
  have hsz : rowOps'.size = rowOps.size := by unfold rowOps'; simp
  have hw := wpAny_sound (P := Try.prog) (ops := rowOps') 10 (w.tape w.drawn (.order b.fn 0)) _ a _ (wpAny_of_held _ _ _ _ h)
  rw [linearise_same hsz row_same, hl] at hw
  rw [hl] at hd
  have hag : ∀ i ∈ l, rowOps'[i]? = rowOps[i]? ∧ ∀ o, rowOps[i]? = some o → o.guard = none := by
    intro i hi
    have hne : 9 ≠ i := fun e => hnl (e ▸ hi)
    refine ⟨by unfold rowOps'; rw [Array.getElem?_modify, if_neg hne], fun o ho => ?_⟩
    have := row_guard
    rw [Array.all_eq_true'] at this
    simpa using this o (Array.mem_of_getElem? ho)
  obtain ⟨a', w', hq, hs⟩ := ops_upto (P := Try.prog) (rest := [9]) (fun e a w hne h => hne h.1) l hag a _ hw b [] cs
  refine ⟨a', w', ?_, .head hd hs⟩
  simp only [wpOps, row_store'] at hq
  have hwn : ∀ y, Region.wanted ({ dst := none, op := .move (.const (.bool true)), type := 0, pos := "l02_hashes.go:183", after := (rowOps[9]?.map Oper.after).getD #[], guard := none } : Oper) y = true := fun y => rfl
  rw [if_pos (hwn _)] at hq
  rcases hq with hq | ⟨_, _, _, hq⟩
  · exact hq.2
  · cases hq.1
end Go.Proofs.Ytmmolicodlmlkaa
namespace Go.Proofs.Ytmmolicodlmlkaa.Ph
open Go.Conc Go.RowKit
open Go.Proofs.Ytmmolicodlmlkaa.Rel
set_option linter.unusedVariables false

/-- Another rely, another guarantee, another reckoning of what is its own, under what stands at every step. -/
theorem go1_map {σ σ' : Type} (φ : σ → σ') {P : Program} {main : Bool} {R : σ → World → World → Prop} {R' : σ' → World → World → Prop} {D : σ → World → World → Array Event → σ → Prop} {D' : σ' → World → World → Array Event → σ' → Prop} {Stop : σ → Goroutine → World → Prop} {I : σ → World → Prop}
    (hR : ∀ s a b, I s a → R' (φ s) a b → R s a b) (hI : ∀ s a b, R' (φ s) a b → I s a → I s b) (hD : ∀ s a b es s', I s a → D s a b es s' → D' (φ s) a b es (φ s') ∧ I s' b) {s : σ} {g : Goroutine} {w : World} (hi : I s w) (h : Go1 P main R D Stop s g w) :
    Go1 P main R' D' (fun t g w => ∃ s, t = φ s ∧ I s w ∧ Stop s g w) (φ s) g w := by
  obtain ⟨T, h⟩ := h
  induction T generalizing s g w with
  | leaf => exact .stop fun w₁ h₁ => ⟨s, rfl, hI _ _ _ h₁ hi, h w₁ (hR _ _ _ hi h₁)⟩
  | node f ih =>
    refine .intro fun w₁ h₁ => ?_
    have hi1 := hI _ _ _ h₁ hi
    rcases h w₁ (hR _ _ _ hi h₁) with h2 | ⟨hr, g', w', es, s', h2, h3, h4⟩
    · exact .inl ⟨s, rfl, hi1, h2⟩
    · obtain ⟨h5, h6⟩ := hD _ _ _ _ _ hi1 h3
      exact .inr ⟨hr, g', w', es, φ s', h2, h5, ih w₁ h6 h4⟩
section
variable {P : Program} {fs : FuncId → Bool} {v : World} {Rd S : Nat → Prop} {C : Nat} {cs : List Frame} {main : Bool}
/-- What may be named, where one block is named alone. -/
noncomputable abbrev fnsC (fs : FuncId → Bool) (v : World) (Rd S : Nat → Prop) (C : Nat) : Fns := fnsNa fs v (fun b => S b ∨ Rd b) S (fun b => b = C)
theorem fnsC_al {b : Nat} (hb : b < v.heap.size) (h : (fnsC fs v Rd S C).al b = true) (hn : (fnsC fs v Rd S C).na b = false) : (S b ∨ Rd b) ∧ plainO v.heap[b]? = true := by
  classical
  simp only [fnsC, fnsNa, decide_eq_false_iff_not] at hn
  simp only [fnsC, fnsNa, hb, if_true, hn, decide_false, Bool.false_or, Bool.and_eq_true, decide_eq_true_eq] at h
  exact h
theorem fnsC_na {b : Nat} : (fnsC fs v Rd S C).na b = true ↔ b = C := by
  classical
  simp only [fnsC, fnsNa, decide_eq_true_eq]
theorem fnsC_new {b : Nat} (hC : C < v.heap.size) (hb : v.heap.size ≤ b) : (fnsC fs v Rd S C).al b = true ∧ (fnsC fs v Rd S C).wr b = true ∧ (fnsC fs v Rd S C).na b = false := by
  classical
  have h1 : ¬ b < v.heap.size := by omega
  have h2 : ¬ b = C := by omega
  simp [fnsC, fnsNa, h1, h2]
theorem fnsC_old {b : Nat} (hb : b < v.heap.size) (ha : S b ∨ Rd b) (hp : plainO v.heap[b]? = true) : (fnsC fs v Rd S C).al b = true := by
  classical
  simp only [fnsC, fnsNa, hb, if_true, ha, decide_true, hp, Bool.and_self, Bool.or_true]
theorem fnsC_no {b : Nat} (hb : b < v.heap.size) : (fnsC fs v Rd No C).wr b = false := by
  classical
  simp only [fnsC, fnsNa, hb, if_true, decide_eq_false_iff_not]
  exact id
theorem fnsC_C (hb : C < v.heap.size) : (fnsC fs v Rd S C).al C = true := by
  classical
  simp only [fnsC, fnsNa, hb, if_true, decide_true, Bool.true_or]
theorem left_relyB {Fs : Fns} {S0 S1 : Nat → Prop} {Bd : Nat → Prop} {ρ : Rn} {wl w w₁ : World} (h : Rel.Left P Fs v Rd S0 ρ wl S1 w) (hal : ∀ b, b < v.heap.size → Fs.al b = true → Fs.na b = false → S0 b ∨ Rd b) (hna : ∀ b, Fs.na b = true → b < v.heap.size ∧ Bd b) (r : RSB Bd Rd S1 w w₁) : Rel.Left P Fs v Rd S0 ρ wl S1 w₁ := by
  refine ⟨h.id, h.new, h.wr.relyN (fun c hc hca hcn => ?_) (fun c hc hcn => ?_), h.low, h.mine, r.tape.trans h.tape, r.os.trans h.os, r.output.trans h.output, Nat.le_trans h.size r.size, fun b hb => (r.rd b hb).trans (h.rd b hb)⟩
  · show w₁.heap[ρ.f c]? = w.heap[ρ.f c]?
    rcases Nat.lt_or_ge c v.heap.size with hb | hb
    · rw [h.id c hb]
      rcases hal c hb hca hcn with h1 | h1
      · exact r.own c ((h.mine c).2 (.inl h1))
      · exact r.rd c h1
    · exact r.own _ ((h.mine _).2 (.inr ⟨c, hb, hc, rfl⟩))
  · obtain ⟨q1, q2⟩ := hna c hcn
    show ∀ cc e fr, w.heap[ρ.f c]? = _ → ∃ c' fr', w₁.heap[ρ.f c]? = _
    rw [h.id c q1]
    exact fun cc e fr hh => r.bd c q2 cc e fr hh
/-- What is read, where nothing that is there already is written: what others read too, what this one has made. -/
abbrev RdS (Rd S : Nat → Prop) : Nat → Prop := fun b => Rd b ∨ S b
/-- ████ A REGION UP TO AN OPERATION, BY A WORKER: what there was stands. ████ -/
theorem upto_worker {ty : TypeId} {Wg : Nat} {mine : Nat → Prop} {f : FuncId} {c : Code} {a : Act} {ops : Array Oper} {rest : List Nat} {Pre : Act → World → Prop} (hz : ZeroOk P) (hG : P.globals.size ≤ v.heap.size) (hO : ∀ ρ, FnsOk ⟨P, ρ, fnsC fs v (RdS Rd S) No C⟩) (hS : ∀ b, S b → b < v.heap.size) (hR : ∀ b, Rd b → b < v.heap.size)
    (hC : C < v.heap.size) (hCc : ∃ c e fr, v.heap[C]? = some (.cells c e fr)) (hc : codeOk P (fnsC fs v (RdS Rd S) No C) c = true) (hd : a.defers = []) (ha : ∀ x ∈ a.tmps, okV (fnsC fs v (RdS Rd S) No C) v.heap.size x = true)
    (hl : ∀ (τ : Nat → Question → Nat) (b : Frame) (cs : List Frame), ∃ a' w', Pre a' w' ∧ Steps P (lone (b.at a [.code c]) cs { loneW (fnsC fs v (RdS Rd S) No C) v with tape := τ, drawn := 0 }) (lone (b.at a' [.inRegion ops rest]) cs w')) :
    GW P ty Wg C mine Rd (fun S' g w => ∃ s ρ a' wl, S' = (fun b => S b ∨ s b) ∧ g = G ((base f).at ⟨a'.tmps.map (ren ρ), []⟩ [.inRegion ops rest]) cs ∧ Pre a' wl ∧ (∀ x ∈ a'.tmps, okJ (fnsC fs v (RdS Rd S) No C) wl.heap.size x = true) ∧ Rel.Left P (fnsC fs v (RdS Rd S) No C) v (RdS Rd S) No ρ wl s w ∧ OutStay C mine v w) S (G ((base f).at a [.code c]) cs) v := by
  have hal : ∀ b, b < v.heap.size → (fnsC fs v (RdS Rd S) No C).al b = true → (fnsC fs v (RdS Rd S) No C).na b = false → (No b ∨ RdS Rd S b) ∧ plainO v.heap[b]? = true := fun b hb h hn => fnsC_al hb h hn
  have hnew : ∀ b, v.heap.size ≤ b → (fnsC fs v (RdS Rd S) No C).al b = true ∧ (fnsC fs v (RdS Rd S) No C).wr b = true ∧ (fnsC fs v (RdS Rd S) No C).na b = false := fun b hb => fnsC_new hC hb
  have hna : ∀ b, (fnsC fs v (RdS Rd S) No C).na b = true → b = C := fun b h => fnsC_na.1 h
  have hCal : (fnsC fs v (RdS Rd S) No C).al C = true := fnsC_C hC
  have hwr : ∀ b, b < v.heap.size → (fnsC fs v (RdS Rd S) No C).wr b = true → No b := by
    classical
    intro b hb h
    simpa only [fnsC, fnsNa, hb, if_true, decide_eq_true_eq] using h
  generalize fnsC fs v (RdS Rd S) No C = Fs at *
  let StopL : Frame → List Frame → World → Prop := fun fl cl w => ∃ a', fl = (base f).at a' [.inRegion ops rest] ∧ cl = [badF] ∧ Pre a' w
  have U : Setup P Fs v.heap.size [] [] cs ((base f).at a [.code c]) ((base f).at a [.code c]) [badF] cs (loneW Fs v) v (fun b => b = C) (RdS Rd S) No StopL :=
    { hz := hz, hO := hO, hG := hG, hk := .inl ⟨rfl, rfl⟩,
      hST := fun ρ hρ => .last (by
        refine ⟨rfl, ⟨?_, fun x hx => okV_okJ _ _ _ (ha x hx)⟩, ⟨[.code c], [], [], rfl, rfl, fun it hit => by simp at hit; rw [hit]; exact hc, .here⟩, hd, hd, .inl ⟨rfl, rfl⟩, rfl, rfl, rfl, rfl⟩
        apply Array.ext (by simp [Frame.at])
        intro i h1 h2
        rw [Array.getElem_map]
        exact (ren_agree hρ _ (ha _ (Array.getElem_mem h1))).symm),
      hwl := loneW_size, hv := rfl, hW := fun ρ hρ => loneW_wr (fun b hb h hn => (hal b hb h hn).2) hnew (fun b h => by
        obtain rfl := hna b h
        exact ⟨hCal, hCc⟩) ρ hρ,
      hal := fun b hb h hn => (hal b hb h hn).1, hna := fun b h => (by rw [hna b h]; exact ⟨hC, rfl, id⟩), hwr := fun b hb _ h => hwr b hb h, hS0 := fun b h => h.elim, hRd := fun b hb => ⟨hb.elim (hR b) (hS b), id⟩,
      hTerm := fun τ => by
        obtain ⟨a', w', hp, M, hM⟩ := hl τ (base f) [badF]
        exact ⟨M, _, _, w', hM, a', rfl, rfl, hp⟩,
      hSL := fun fl cl w ⟨a', h1, h2, _⟩ => ⟨fun ch e => (by rw [h1] at e; cases e), (by rw [h2]; simp)⟩ }
  have h1 := transferB (main := false) U
  have hRB : ∀ (s : Nat → Prop) (a b : World), RW ty Wg C mine Rd (fun b => S b ∨ s b) a b → RSB (fun b => b = C) (RdS Rd S) s a b := fun s a b r =>
    ⟨⟨r.tape, r.os, r.output, r.size, fun y hy => r.own y (.inr hy), fun y hy => hy.elim (r.rd y) fun h => r.own y (.inl h)⟩, fun x hx cc e fr hh => by
      subst hx
      obtain ⟨cs', q1, _, _⟩ := r.out cc e fr hh
      exact ⟨cs', fr, q1⟩⟩
  have h2 : GW P ty Wg C mine Rd (fun t g w => ∃ s, t = (fun b => S b ∨ s b) ∧ (¬ s C ∧ C < w.heap.size ∧ (∀ b, S b → b < w.heap.size ∧ ¬ s b) ∧ OutStay C mine v w) ∧ StopC P Fs v.heap.size [] [] cs v (RdS Rd S) No StopL s g w) (fun b => S b ∨ No b) (G ((base f).at a [.code c]) cs) v := by
    refine go1_map (φ := fun (s : Nat → Prop) b => S b ∨ s b) (R' := RW ty Wg C mine Rd) (D' := DW Wg C mine Rd) (I := fun s w => ¬ s C ∧ C < w.heap.size ∧ (∀ b, S b → b < w.heap.size ∧ ¬ s b) ∧ OutStay C mine v w) (fun s a b _ r => hRB s a b r)
      (fun s a b r hi => ⟨hi.1, Nat.lt_of_lt_of_le hi.2.1 r.size, fun y hy => ⟨Nat.lt_of_lt_of_le (hi.2.2.1 y hy).1 r.size, (hi.2.2.1 y hy).2⟩, hi.2.2.2.trans r.out⟩) (fun s a b es s' hi d => ?_) ⟨id, hC, fun b hb => ⟨hS b hb, id⟩, .refl _ _ _⟩ h1
    obtain ⟨i1, i2, i3, i4⟩ := hi
    have no : ∀ y, y < a.heap.size → ¬ s y → ¬ s' y := fun y hy hn hs' => ((d.own y).1 hs').elim hn fun h => by omega
    refine ⟨⟨d.tape, d.os, d.output, d.size, fun y => ?_, fun y hy hn _ => d.old y hy fun h => hn (.inr h), .of_block (d.old C i2 i1), fun e he => .inl ?_⟩, no C i2 i1, Nat.lt_of_lt_of_le i2 d.size, fun y hy => ⟨Nat.lt_of_lt_of_le (i3 y hy).1 d.size, no y (i3 y hy).1 (i3 y hy).2⟩, i4.trans (.of_block (d.old C i2 i1))⟩
    · have := d.own y
      constructor
      · rintro (h | h)
        · exact .inl (.inl h)
        · exact (this.1 h).imp .inr id
      · rintro ((h | h) | h)
        · exact .inl h
        · exact .inr (this.2 (.inl h))
        · exact .inr (this.2 (.inr h))
    · rcases d.evs e he with ⟨ad, l1, l2, l3⟩ | ⟨r, l1, l2, l3⟩ | l
      · refine .inl ⟨ad, l1, ?_, l3⟩
        rcases l2 with l2 | ⟨l2 | l2, l4⟩
        · exact .inl (.inr l2)
        · exact .inr ⟨l2, l4⟩
        · exact .inl (.inl l2)
      · refine .inr (.inl ⟨r, l1, ?_, l3⟩)
        rcases l2 with l2 | ⟨l2 | l2, l4⟩
        · exact .inl (.inr l2)
        · exact .inr ⟨l2, l4⟩
        · exact .inl (.inl l2)
      · exact .inr (.inr l)
  have e0 : (fun b => S b ∨ No b) = S := by funext b; simp [No]
  rw [e0] at h2
  refine Go1.bind (fun _ a => RW.refl a) h2 ?_
  rintro S' g w ⟨s, rfl, hi, ρ, fl, cl, wl, hA, a', rfl, rfl, hp⟩
  refine Go1.stop fun w₁ h₁ => ?_
  obtain ⟨fc, cc, rfl, hst⟩ := hA.st
  have hfr : FR ⟨P, ρ, Fs⟩ wl.heap.size [] [] ((base f).at a' [.inRegion ops rest]) fc ∧ cc = cs := by
    rcases hst.fr with ⟨h, _, h2⟩ | ⟨_, _, _, h⟩
    · exact ⟨h, h2⟩
    · exfalso
      cases h with
      | cons _ _ _ h => cases h
  obtain ⟨hfr, rfl⟩ := hfr
  have htodo : fc.todo = [.inRegion ops rest] := by
    obtain ⟨its, tl, tc, t1, t2, _, hT⟩ := hfr.todo
    have t1 : [Item.inRegion ops rest] = its ++ tl := t1
    cases hT with
    | here =>
      rw [List.append_nil] at t1 t2
      rw [t2, t1]
    | seq _ _ =>
      cases its with
      | nil => simp at t1
      | cons x its => cases its <;> simp at t1
  have hm : fc.mode = .run := by
    rcases hfr.mode with ⟨_, h⟩ | ⟨h, _⟩
    · exact h
    · cases h
  have hL : Rel.Left P Fs v (RdS Rd S) No ρ wl s w := ⟨hA.id, hA.new, hA.wr, hA.low, hA.mine, hA.tape, hA.os, hA.output, hA.size, hA.rd⟩
  refine ⟨s, ρ, a', wl, rfl, ?_, hp, hfr.tmps.2, left_relyB (Bd := fun b => b = C) hL (fun b hb h hn => (hal b hb h hn).1) (fun b h => (by rw [hna b h]; exact ⟨hC, rfl⟩)) (hRB s _ _ h₁), hi.2.2.2.trans h₁.out⟩
  have e : fc = (base f).at ⟨a'.tmps.map (ren ρ), []⟩ [.inRegion ops rest] := by
    have h1 := hfr.fn
    have h2 := hfr.tmps.1
    have h3 := hfr.defc
    have h4 := hfr.kindc
    have h5 := hfr.roc
    obtain ⟨q1, q2, q3, q4, q5, q6, q7⟩ := fc
    simp only at h1 h2 h3 h4 h5 htodo hm
    subst h1; subst h2; subst h3; subst h4; subst h5; subst htodo; subst hm
    rfl
  rw [e]
end
section
variable {P : Program} {Fs : Fns} {v w wl : World} {Rd S0 S : Nat → Prop} {ρ : Rn}
/-- A block that the lone walk has made or turned, in company. -/
theorem left_blk (h : Rel.Left P Fs v Rd S0 ρ wl S w) {b : Nat} {c : Array Value} {e : TypeId} (ha : Fs.al b = true) (hb : wl.heap[b]? = some (.cells c e (0, 0))) : w.heap[ρ.f b]? = some (.cells (c.map (ren ρ)) e (0, 0)) ∧ ∀ x ∈ c, okJ Fs wl.heap.size x = true := by
  obtain ⟨ol, oc, h1, h2, h3⟩ := h.wr.blk b (Array.getElem?_eq_some_iff.1 hb).1 ha
  rw [hb] at h1
  obtain rfl := Option.some.inj h1
  have h2' : w.heap[ρ.f b]? = some oc := h2
  rw [h2']
  generalize ho : Obj.cells c e (0, 0) = o at h3
  cases h3 with
  | cells _ hc => injection ho with e1 e2; subst e1; subst e2; exact ⟨rfl, hc⟩
  | ro hc h0 => injection ho with e1 e2 e3; subst e1; subst e2; injection e3 with _ e4; obtain rfl := h0 e4.symm; exact ⟨rfl, hc⟩
  | bad => injection ho with e1 e2 e3; injection e3 with _ e4; cases e4
  | dull hd => cases oc <;> simp [stand] at ho hd
  | number => cases ho
  | map => cases ho
theorem left_new (h : Rel.Left P Fs v Rd S0 ρ wl S w) {b : Nat} (h1 : v.heap.size ≤ b) (h2 : b < wl.heap.size) : S (ρ.f b) ∧ v.heap.size ≤ ρ.f b := ⟨(h.mine _).2 (.inr ⟨b, h1, h2, rfl⟩), h.new b h1⟩
theorem left_low (h : Rel.Left P Fs v Rd S0 ρ wl S w) (hal : ∀ b, v.heap.size ≤ b → Fs.al b = true) (hS : ∀ b, S0 b → b < v.heap.size) {b : Nat} (hb : S b) : b < w.heap.size := by
  rcases (h.mine b).1 hb with h1 | ⟨c, h1, h2, rfl⟩
  · exact Nat.lt_of_lt_of_le (hS b h1) h.size
  · obtain ⟨_, oc, _, h4, _⟩ := h.wr.blk c h2 (hal c h1)
    exact (Array.getElem?_eq_some_iff.1 h4).1
theorem left_ints (h : Rel.Left P Fs v Rd S0 ρ wl S w) {b : Nat} (ha : Fs.al b = true) (hb : Ints wl b) : Ints w (ρ.f b) := by
  obtain ⟨c, e, h1, h2⟩ := hb
  have h3 := (left_blk h ha h1).1
  refine ⟨_, e, h3, fun x hx => ?_⟩
  obtain ⟨y, hy, rfl⟩ := Array.mem_map.1 hx
  obtain ⟨i, rfl⟩ := h2 y hy
  exact ⟨i, by simp⟩
end
end Go.Proofs.Ytmmolicodlmlkaa.Ph
namespace Go.Proofs.Ytmmolicodlmlkaa.Ph
open Go.Conc Go.ConcN Go.RowKit Go.Conc.Lib Go.ConcR.Gen Go.ConcN.Gen
open Go.ConcR (KK wgBlock WgAt stA smA rd wr mk DC0 Payload)
open Go.Proofs.Ytmmolicodlmlkaa.Rel
set_option linter.unusedVariables false
set_option linter.unusedSimpArgs false

/-- What is worked on: keys, salts, the boxes that hold them, the block for the rows. -/
structure RowIn (Shun : Loc → Prop) (w0 : World) (A : Option Addr) (c : Nat) (x : List Int) (A2 : Option Addr) (c2 : Nat) (sl : List Int) (C bk bs bo : Nat) : Prop where
  glob : Try.prog.globals.size ≤ w0.heap.size
  x256 : x.length ≤ 256
  s32 : sl.length ≤ 32
  xb : ∀ y ∈ x, 0 ≤ y ∧ y ≤ 4294967295
  sb : ∀ y ∈ sl, 0 ≤ y ∧ y ≤ 4294967295
  rx : RdL (Value.int .i64) w0 A x
  rs : RdL (Value.int .i64) w0 A2 sl
  bA : ∀ a, A = some a → FreeB Shun w0 a.block ∧ a.block ≠ C ∧ Plz w0 a
  bA2 : ∀ a, A2 = some a → FreeB Shun w0 a.block ∧ a.block ≠ C ∧ Plz w0 a
  hk : FreeB Shun w0 bk ∧ bk ≠ C ∧ ∃ t, w0.heap[bk]? = some (.cells #[.slice A x.length c] t (0, 0))
  hs : FreeB Shun w0 bs ∧ bs ≠ C ∧ ∃ t, w0.heap[bs]? = some (.cells #[.slice A2 sl.length c2] t (0, 0))
  ho : FreeB Shun w0 bo ∧ bo ≠ C ∧ ∃ t, w0.heap[bo]? = some (.cells #[.slice (some ⟨C, 0, none⟩) sl.length sl.length] t (0, 0))
  hC : ∃ cs t, w0.heap[C]? = some (.cells cs t (0, 0)) ∧ cs.size = sl.length
/-- The rows of some numbers lie in blocks of S, each in its own. -/
def RowsIn (lo C : Nat) (x sl : List Int) (D : Nat → Prop) (S : Nat → Prop) (w : World) : Prop :=
  ∃ (R : Nat → Option Addr) (cc : Nat → Nat),
    (∀ o, D o → w.cell? ⟨C, o, none⟩ = some (.slice (R o) x.length (cc o)) ∧ OwnS (Value.int .i64) w lo 2 (R o) (rowH x (sl.getD o 0).toNat x.length) ∧ ∀ a, R o = some a → S a.block ∧ IntsA w a) ∧
    (∀ o o' a a', D o → D o' → R o = some a → R o' = some a' → a.block = a'.block → o = o')
theorem out_cell {C : Nat} {mine : Nat → Prop} {w w₁ : World} {o : Nat} {v : Value} (h : OutStay C mine w w₁) (hm : mine o) (hc : w.cell? ⟨C, o, none⟩ = some v) : w₁.cell? ⟨C, o, none⟩ = some v := by
  unfold World.cell? at hc ⊢
  simp only at hc ⊢
  cases hb : w.heap[C]? with
  | none => rw [hb] at hc; cases hc
  | some ob =>
    rw [hb] at hc
    cases ob <;> first | (simp at hc; done) | skip
    rename_i cs e fr
    obtain ⟨cs', h1, _, h3⟩ := h cs e fr hb
    rw [h1]
    simp only at hc ⊢
    simp only [Option.isSome_none, Bool.false_eq_true, if_false] at hc ⊢
    rw [h3 o hm]; exact hc
section
variable {Shun : Loc → Prop} {w0 w w₁ : World} {A A2 : Option Addr} {c c2 C bk bs bo lo k j i n : Nat} {x sl : List Int} {D D' S S' mine Rd : Nat → Prop}
theorem RowsIn.sub (h : RowsIn lo C x sl D S w) (hD : ∀ o, D' o → D o) : RowsIn lo C x sl D' S w :=
  let ⟨R, cc, h1, h2⟩ := h
  ⟨R, cc, fun o ho => h1 o (hD o ho), fun o o' a a' ho ho' => h2 o o' a a' (hD o ho) (hD o' ho')⟩
theorem RowsIn.stay (h : RowsIn lo C x sl D S w) (hS : ∀ b, S b → w₁.heap[b]? = w.heap[b]?) (hC : OutStay C mine w w₁) (hD : ∀ o, D o → mine o) (hSS : ∀ b, S b → S' b) : RowsIn lo C x sl D S' w₁ := by
  obtain ⟨R, cc, h1, h2⟩ := h
  refine ⟨R, cc, fun o ho => ?_, h2⟩
  obtain ⟨q1, q2, q3⟩ := h1 o ho
  refine ⟨out_cell hC (hD o ho) q1, fun hne => ?_, fun a ha => ?_⟩
  · obtain ⟨g, ex, e1, e2, e3⟩ := q2 hne
    exact ⟨g, ex, e1, e2, (hS g (q3 _ e1).1).trans e3⟩
  · obtain ⟨s1, s2⟩ := q3 a ha
    exact ⟨hSS _ s1, s2.stay (hS _ s1)⟩
theorem U0.rely (h : U0 Shun C w0 w) (hR : ∀ x, FreeB Shun w0 x ∧ x ≠ C → Rd x) {ty : TypeId} {Wg : Nat} (r : RW ty Wg C mine Rd S w w₁) : U0 Shun C w0 w₁ :=
  ⟨⟨r.tape.trans h.1.1, r.os.trans h.1.2.1, r.output.trans h.1.2.2⟩, fun x hx hC => (r.rd x (hR x ⟨hx, hC⟩)).trans (h.2.1 x hx hC), h.2.2.trans (r.out.weaken fun _ h => h.elim)⟩
/-- What a worker holds ahead of number i. -/
def JR (Shun : Loc → Prop) (C : Nat) (w0 : World) (x sl : List Int) (k j i : Nat) (S : Nat → Prop) (w : World) : Prop :=
  U0 Shun C w0 w ∧ (∀ b, S b → w0.heap.size ≤ b) ∧ i % k = j ∧ RowsIn w0.heap.size C x sl (fun o => o < i ∧ o % k = j) S w
theorem JR.rely {ty : TypeId} {Wg : Nat} (h : JR Shun C w0 x sl k j i S w) (hR : ∀ x, FreeB Shun w0 x ∧ x ≠ C → Rd x) (r : RW ty Wg C (fun o => o % k = j) Rd S w w₁) : JR Shun C w0 x sl k j i S w₁ :=
  ⟨h.1.rely hR r, h.2.1, h.2.2.1, h.2.2.2.stay r.own r.out (fun o ho => ho.2) fun _ h => h⟩
/-- .. and at its end. -/
def FactR (lo C : Nat) (x sl : List Int) (k j : Nat) (S : Nat → Prop) (w : World) : Prop :=
  (∀ b, S b → lo ≤ b) ∧ RowsIn lo C x sl (fun o => o < sl.length ∧ o % k = j) S w
theorem mod_next {o i k j : Nat} (h1 : o % k = j) (h2 : i % k = j) (h3 : i ≤ o) (h4 : o < i + k) : o = i := by
  have h5 := Nat.sub_mod_eq_zero_of_mod_eq (h1.trans h2.symm)
  rw [Nat.mod_eq_of_lt (by omega)] at h5
  omega
end
end Go.Proofs.Ytmmolicodlmlkaa.Ph
namespace Go.Proofs.Ytmmolicodlmlkaa.Ph
open Go.Conc Go.ConcN Go.RowKit Go.Conc.Lib Go.ConcR.Gen Go.ConcN.Gen
open Go.ConcR (KK wgBlock WgAt stA smA rd wr mk DC0 Payload)
open Go.Proofs.Ytmmolicodlmlkaa.Rel
set_option linter.unusedVariables false
set_option linter.unusedSimpArgs false

def rowFs : FuncId → Bool := fun f => [83, 111, 66].contains f
theorem rowOk1 : fnOk Try.prog rowFs Try.f83 = true := by kernel_rfl
theorem rowOk2 : fnOk Try.prog rowFs Try.f111 = true := by kernel_rfl
theorem rowOk3 : fnOk Try.prog rowFs Try.f66 = true := by kernel_rfl
theorem rowFs_ok : ∀ f, rowFs f = true → ∃ fn, Try.prog.funcs[f]? = some fn ∧ fnOk Try.prog rowFs fn = true := by
  intro f hf
  simp [rowFs] at hf
  rcases hf with rfl | rfl | rfl
  · exact ⟨_, Try.func83, rowOk1⟩
  · exact ⟨_, Try.func111, rowOk2⟩
  · exact ⟨_, Try.func66, rowOk3⟩
theorem zero_ok : ZeroOk Try.prog := zeroOk_of (by kernel_rfl)
theorem row_codeOk : codeOk Try.prog ⟨rowFs, fun _ => false, fun _ => false, fun _ => false⟩ (.region 0 rowOps true) = true := by kernel_rfl
theorem row_enter (i : Int) (bk bs bo : Nat) : Frame.enter Try.prog 82 (#[.int .i64 i] ++ #[ptr bk, ptr bs, ptr bo]) .normal =
    (base 82).at ⟨#[.int .i64 i, ptrB bk, ptrB bs, ptrB bo, undef, undef, undef, undef, undef, undef, undef, undef, undef, undef], []⟩ [.code (.region 0 rowOps true)] := by
  rw [enter_at _ Try.func82 row_body]
  rfl
section
variable {Wg C : Nat} {mine Rd S : Nat → Prop} {w : World}
theorem dw_store {o : Nat} {v : Value} {es : Array Event} (hm : mine o) (h : ∀ e ∈ es, e = ⟨.cell ⟨C, o, none⟩, true, false⟩) : DW Wg C mine Rd S w (w.setCell ⟨C, o, none⟩ v) es S := by
  have hs : (w.setCell ⟨C, o, none⟩ v).heap.size = w.heap.size := by simp [World.setCell]
  refine ⟨rfl, rfl, rfl, by omega, fun b => ⟨.inl, fun h => h.elim id fun h => by omega⟩, fun b hb hn hne => heap_setCell_other w _ b v hne, fun cs e fr h0 => ?_, fun e he => .inr ⟨o, true, hm, h e he⟩⟩
  refine ⟨cs.setIfInBounds o v, ?_, by simp, fun p hp => ?_⟩
  · unfold World.setCell
    simp only [Array.getElem?_modify, if_true, h0, Option.map_some]
    rfl
  · rw [Array.getElem?_setIfInBounds_ne (show o ≠ p from fun e => hp (e ▸ hm))]
end
theorem rdl_stay {w v : World} {A : Option Addr} {x : List Int} (h : RdL (Value.int .i64) w A x) (hs : ∀ a, A = some a → v.heap[a.block]? = w.heap[a.block]?) : RdL (Value.int .i64) v A x := by
  intro j hj
  obtain ⟨b, o, hA, hc⟩ := h j hj
  exact ⟨b, o, hA, (cell_stay (a := ⟨b, o + j, none⟩) (show v.heap[b]? = w.heap[b]? from hs _ hA)).trans hc⟩
theorem cell0 {w : World} {b : Nat} {v : Value} {t : TypeId} {fr : Nat × Nat} (h : w.heap[b]? = some (.cells #[v] t fr)) : w.cell? ⟨b, 0, none⟩ = some v := by simp [World.cell?, h]
section
variable {Shun : Loc → Prop} {w0 v : World} {A A2 : Option Addr} {c c2 C bk bs bo k j i Wg : Nat} {x sl : List Int} {S Rd : Nat → Prop}
/-- What the lone goroutine that stands for a worker finds. -/
theorem row_lone (I : RowIn Shun w0 A c x A2 c2 sl C bk bs bo) (hR : ∀ y, FreeB Shun w0 y ∧ y ≠ C → Rd y) (hi : i < sl.length) (hW : WI Wg C Rd S v) (hU : U0 Shun C w0 v) :
    (∀ y, FreeB Shun w0 y → y ≠ C → plainO w0.heap[y]? = true ∨ y = bk ∨ y = bs ∨ y = bo → (fnsC rowFs v (RdS Rd S) No C).al y = true) ∧
    ∃ b2 o2, A2 = some ⟨b2, o2, none⟩ ∧ (loneW (fnsC rowFs v (RdS Rd S) No C) v).cell? ⟨b2, o2 + i, none⟩ = some (.int .i64 ((sl.getD i 0).toNat : Nat)) ∧ RdL (Value.int .i64) (loneW (fnsC rowFs v (RdS Rd S) No C) v) A x ∧
    (loneW (fnsC rowFs v (RdS Rd S) No C) v).cell? ⟨bk, 0, none⟩ = some (.slice A x.length c) ∧ (loneW (fnsC rowFs v (RdS Rd S) No C) v).cell? ⟨bs, 0, none⟩ = some (.slice A2 sl.length c2) ∧ (loneW (fnsC rowFs v (RdS Rd S) No C) v).cell? ⟨bo, 0, none⟩ = some (.slice (some ⟨C, 0, none⟩) sl.length sl.length) := by
  have hst : ∀ y, FreeB Shun w0 y → y ≠ C → v.heap[y]? = w0.heap[y]? := hU.2.1
  have hna : ∀ y, y ≠ C → (fnsC rowFs v (RdS Rd S) No C).na y = false := fun y hy => by
    cases h : (fnsC rowFs v (RdS Rd S) No C).na y with
    | false => rfl
    | true => exact absurd (fnsC_na.1 h) hy
  have hal : ∀ y, FreeB Shun w0 y → y ≠ C → plainO (w0.heap[y]?) = true → (fnsC rowFs v (RdS Rd S) No C).al y = true := fun y hy hC hp => by
    have hr := hR y ⟨hy, hC⟩
    exact fnsC_old (hW.rd y hr).1 (.inr (.inl hr)) (by rw [hst y hy hC]; exact hp)
  have hlt : ∀ y, FreeB Shun w0 y → y ≠ C → y < v.heap.size := fun y hy hC => (hW.rd y (hR y ⟨hy, hC⟩)).1
  obtain ⟨hk1, hk2, tk, hk3⟩ := I.hk
  obtain ⟨hs1, hs2, ts, hs3⟩ := I.hs
  obtain ⟨ho1, ho2, tp, ho3⟩ := I.ho
  have okA : ∀ (B : Option Addr) (n cc : Nat), (∀ a, B = some a → FreeB Shun w0 a.block ∧ a.block ≠ C ∧ Plz w0 a) → okV (fnsC rowFs v (RdS Rd S) No C) v.heap.size (.slice B n cc) = true := by
    intro B n cc hB
    cases B with
    | none => simp
    | some a =>
      obtain ⟨q1, q2, q3, q4⟩ := hB a rfl
      rw [okV_sliceA _ _ _ _ q4]
      simp [Rel.inB, hlt _ q1 q2, hal _ q1 q2 q3]
  have okO : okV (fnsC rowFs v (RdS Rd S) No C) v.heap.size (.slice (some ⟨C, 0, none⟩) sl.length sl.length) = true := by
    rw [okV_slice]
    simp [Rel.inB, hW.c.1, fnsC_C hW.c.1]
  have cl : ∀ y u t, FreeB Shun w0 y → y ≠ C → w0.heap[y]? = some (.cells #[u] t (0, 0)) → okV (fnsC rowFs v (RdS Rd S) No C) v.heap.size u = true → (loneW (fnsC rowFs v (RdS Rd S) No C) v).cell? ⟨y, 0, none⟩ = some u := by
    intro y u t h1 h2 h3 h4
    have h5 := (hst y h1 h2).trans h3
    rw [Clean.cell (a := ⟨y, 0, none⟩) ⟨_, _, h5, fun z hz => by simp at hz; rw [hz]; exact h4⟩ (hna y h2) (hal y h1 h2 (by rw [h3]; rfl))]
    exact cell0 h5
  obtain ⟨b2, o2, hA2, hc2⟩ := I.rs i hi
  obtain ⟨p1, p2, p3, _⟩ := I.bA2 _ hA2
  have hnn : ((sl.getD i 0).toNat : Int) = sl[i] := by
    rw [List.getD_eq_getElem?_getD, List.getElem?_eq_getElem hi, Option.getD_some, Int.toNat_of_nonneg (I.sb _ (List.getElem_mem hi)).1]
  refine ⟨fun y h1 h2 h3 => hal y h1 h2 ?_, b2, o2, hA2, ?_, ?_, cl _ _ _ hk1 hk2 hk3 (okA _ _ _ I.bA), cl _ _ _ hs1 hs2 hs3 (okA _ _ _ I.bA2), cl _ _ _ ho1 ho2 ho3 okO⟩
  · rcases h3 with h3 | rfl | rfl | rfl
    · exact h3
    · rw [hk3]; rfl
    · rw [hs3]; rfl
    · rw [ho3]; rfl
  · rw [hnn]
    exact loneW_at (a := ⟨b2, o2 + i, none⟩) ((cell_stay (a := ⟨b2, o2 + i, none⟩) (hst b2 p1 p2)).trans hc2) (hna b2 p2) (hal b2 p1 p2 p3) (fnsC_no (hlt b2 p1 p2)) (by simp)
  · refine rdl_look (rdl_stay I.rx fun a ha => hst _ (I.bA a ha).1 (I.bA a ha).2.1) (fun _ => by simp) fun b o _ hA => ?_
    obtain ⟨q1, q2, q3, _⟩ := I.bA _ hA
    exact ⟨hna b q2, hal b q1 q2 q3, fnsC_no (hlt b q1 q2)⟩
end
end Go.Proofs.Ytmmolicodlmlkaa.Ph
namespace Go.Proofs.Ytmmolicodlmlkaa.Ph
open Go.Conc Go.ConcN Go.RowKit Go.Conc.Lib Go.ConcR.Gen Go.ConcN.Gen
open Go.ConcR (KK wgBlock WgAt stA smA rd wr mk DC0 Payload)
open Go.Proofs.Ytmmolicodlmlkaa.Rel
set_option linter.unusedVariables false
set_option linter.unusedSimpArgs false

section
variable {Shun : Loc → Prop} {w0 v : World} {A A2 : Option Addr} {c c2 C bk bs bo k j i Wg : Nat} {x sl : List Int} {S Rd : Nat → Prop}
/-- The new row, ahead of its store. -/
def NewRow (lo B : Nat) (x : List Int) (s : Nat) (R : Option Addr) (S : Nat → Prop) (w : World) : Prop :=
  OwnS (Value.int .i64) w lo 2 R (rowH x s x.length) ∧ ∀ a, R = some a → S a.block ∧ B ≤ a.block ∧ IntsA w a
theorem NewRow.rely {lo B s : Nat} {R : Option Addr} {w w₁ : World} (h : NewRow lo B x s R S w) (hS : ∀ b, S b → w₁.heap[b]? = w.heap[b]?) : NewRow lo B x s R S w₁ := by
  refine ⟨fun hne => ?_, fun a ha => ?_⟩
  · obtain ⟨g, ex, e1, e2, e3⟩ := h.1 hne
    exact ⟨g, ex, e1, e2, (hS g (h.2 _ e1).1).trans e3⟩
  · obtain ⟨q1, q2, q3⟩ := h.2 a ha
    exact ⟨q1, q2, q3.stay (hS _ q1)⟩
/-- Behind the store. -/
theorem jr_store {S' : Nat → Prop} {B cc : Nat} {R : Option Addr} {w : World} (h : JR Shun C w0 x sl k j i S w) (hSB : ∀ b, S b → b < B) (hSS : ∀ b, S b → S' b) (hlo' : ∀ b, S' b → w0.heap.size ≤ b) (hN : NewRow w0.heap.size B x (sl.getD i 0).toNat R S' w)
    (hCS : ¬ S' C) (hc : ∃ u, w.cell? ⟨C, i, none⟩ = some u) : JR Shun C w0 x sl k j (i + k) S' (w.setCell ⟨C, i, none⟩ (.slice R x.length cc)) := by
  obtain ⟨⟨⟨u1, u2, u3⟩, hst, hout⟩, hlo, hij, R0, c0, h1, h2⟩ := h
  have old : ∀ b, b ≠ C → (w.setCell ⟨C, i, none⟩ (.slice R x.length cc)).heap[b]? = w.heap[b]? := fun b hb => heap_setCell_other w _ b _ hb
  have oS : ∀ b, S' b → (w.setCell ⟨C, i, none⟩ (.slice R x.length cc)).heap[b]? = w.heap[b]? := fun b hb => old b fun e => hCS (e ▸ hb)
  have hnew : (w.setCell ⟨C, i, none⟩ (.slice R x.length cc)).cell? ⟨C, i, none⟩ = some (.slice R x.length cc) := by
    obtain ⟨u, hu⟩ := hc
    exact World.cell?_setCell_same _ _ _ hu
  have hoth : ∀ o, o ≠ i → (w.setCell ⟨C, i, none⟩ (.slice R x.length cc)).cell? ⟨C, o, none⟩ = w.cell? ⟨C, o, none⟩ := fun o ho => World.cell?_setCell_other _ _ _ _ (fun e => ho (by injection e with _ e _; exact e.symm))
  have hlt : ∀ {o : Nat}, o < i + k → o % k = j → o ≠ i → o < i := fun {o} h1 h2 h3 => by
    rcases Nat.lt_or_ge o i with h | h
    · exact h
    · exact absurd (mod_next h2 hij h h1) h3
  refine ⟨⟨⟨u1, u2, u3⟩, fun y hy hC => (old y hC).trans (hst y hy hC), hout.trans fun cs e fr h0 => ⟨cs.setIfInBounds i (.slice R x.length cc), ?_, by simp, fun _ h => h.elim⟩⟩, hlo', by rw [Nat.add_mod_right]; exact hij,
    fun o => if o = i then R else R0 o, fun o => if o = i then cc else c0 o, fun o ho => ?_, fun o o' a a' ho ho' ha ha' hb => ?_⟩
  · unfold World.setCell
    simp only [Array.getElem?_modify, if_true, h0, Option.map_some]
    rfl
  · by_cases he : o = i
    · subst he
      simp only [if_true]
      have hN' := hN.rely oS
      exact ⟨hnew, hN'.1, fun a ha => let ⟨q1, _, q3⟩ := hN'.2 a ha; ⟨q1, q3⟩⟩
    · obtain ⟨q1, q2, q3⟩ := h1 o ⟨hlt ho.1 ho.2 he, ho.2⟩
      simp only [he, if_false]
      refine ⟨(hoth o he).trans q1, fun hne => ?_, fun a ha => ?_⟩
      · obtain ⟨g, ex, e1, e2, e3⟩ := q2 hne
        exact ⟨g, ex, e1, e2, (oS g (hSS _ (q3 _ e1).1)).trans e3⟩
      · obtain ⟨s1, s2⟩ := q3 a ha
        exact ⟨hSS _ s1, s2.stay (oS _ (hSS _ s1))⟩
  · by_cases he : o = i <;> by_cases he' : o' = i
    · rw [he, he']
    · simp only [he, he', if_true, if_false] at ha ha'
      have hl := hlt ho'.1 ho'.2 he'
      have := hSB _ ((h1 o' ⟨hl, ho'.2⟩).2.2 a' ha').1
      have := (hN.2 a ha).2.1
      omega
    · simp only [he, he', if_true, if_false] at ha ha'
      have hl := hlt ho.1 ho.2 he
      have := hSB _ ((h1 o ⟨hl, ho.2⟩).2.2 a ha).1
      have := (hN.2 a' ha').2.1
      omega
    · simp only [he, he', if_false] at ha ha'
      exact h2 o o' a a' ⟨hlt ho.1 ho.2 he, ho.2⟩ ⟨hlt ho'.1 ho'.2 he', ho'.2⟩ ha ha' hb
set_option maxRecDepth 100000 in
set_option maxHeartbeats 4000000 in
/-- ████ THE WORK FOR ONE NUMBER. ████ -/
theorem row_do (I : RowIn Shun w0 A c x A2 c2 sl C bk bs bo) (hk : 1 ≤ k) (hWg : w0.heap.size ≤ Wg) (hR : ∀ y, FreeB Shun w0 y ∧ y ≠ C → Rd y) (hi : i < sl.length) (hW : WI Wg C Rd S v) (hJ : JR Shun C w0 x sl k j i S v)
    (b : Frame) (a : Act) (ops : Array Oper) (xx : Nat) (rest : List Nat) (kk : List Item) (cs : List Frame) :
    GW Try.prog link.tWg Wg C (fun o => o % k = j) Rd (fun S' g' w' => g' = G (b.at (a.put ((ops[xx]?).bind (·.dst)) (.tuple #[])) (.inRegion ops rest :: kk)) cs ∧ JR Shun C w0 x sl k j (i + k) S' w') S
      (G (Frame.enter Try.prog 82 (#[.int .i64 i] ++ #[ptr bk, ptr bs, ptr bo]) .normal) (b.at a (.inRegion ops (xx :: rest) :: kk) :: cs)) v := by
  obtain ⟨hal, b2, o2, hA2, hsc, hrx, hck, hcs, hco⟩ := row_lone I hR hi hW hJ.1
  have hlt : ∀ y, FreeB Shun w0 y → y ≠ C → y < v.heap.size := fun y hy hC => (hW.rd y (hR y ⟨hy, hC⟩)).1
  have hwgv := hW.wg.1
  have hgl := I.glob
  have hss : sl.getD i 0 ≤ 4294967295 ∧ 0 ≤ sl.getD i 0 := by
    have := I.sb sl[i] (List.getElem_mem hi)
    rw [List.getD_eq_getElem?_getD, List.getElem?_eq_getElem hi, Option.getD_some]
    omega
  have hs32 := I.s32
  rw [row_enter]
  let Pre : Act → World → Prop := fun a' w' => ∃ A' c' t0 t5 t6 t7 t8 t9 t10 t11, a' = ⟨#[t0, ptrB bk, ptrB bs, ptrB bo, undef, t5, t6, t7, t8, t9, t10, t11, .slice A' x.length c', .pointer (some ⟨C, i, none⟩)], []⟩ ∧
    OwnS (Value.int .i64) w' v.heap.size 2 A' (rowH x (sl.getD i 0).toNat x.length) ∧ ∀ a, A' = some a → v.heap.size ≤ a.block ∧ IntsA w' a
  have hup := upto_worker (P := Try.prog) (fs := rowFs) (v := v) (Rd := Rd) (S := S) (C := C) (cs := b.at a (.inRegion ops (xx :: rest) :: kk) :: cs) (ty := link.tWg) (Wg := Wg) (mine := fun o => o % k = j) (f := 82) (c := .region 0 rowOps true)
    (a := ⟨#[.int .i64 i, ptrB bk, ptrB bs, ptrB bo, undef, undef, undef, undef, undef, undef, undef, undef, undef, undef], []⟩) (ops := rowOps) (rest := [9]) (Pre := Pre) zero_ok (by omega) (fun ρ => by unfold fnsC fnsNa; exact fnsOk_of rowFs_ok) hW.s (fun y hy => (hW.rd y hy).1) hW.c.1
    (by
      obtain ⟨cs0, t, h1, _⟩ := I.hC
      obtain ⟨cs1, h2, _⟩ := hJ.1.2.2 _ _ _ h1
      exact ⟨_, _, _, h2⟩)
    (by unfold fnsC fnsNa; exact code_mono _ row_codeOk) rfl
    (by
      have hp : ∀ y, FreeB Shun w0 y → y ≠ C → (fnsC rowFs v (RdS Rd S) No C).al y = true → okV (fnsC rowFs v (RdS Rd S) No C) v.heap.size (ptrB y) = true := fun y h1 h2 h3 => by
        rw [okV_pointer]
        simp [Rel.inB, hlt y h1 h2, h3]
      intro z hz
      simp at hz
      rcases hz with rfl | rfl | rfl | rfl | rfl
      · simp
      · exact hp _ I.hk.1 I.hk.2.1 (hal _ I.hk.1 I.hk.2.1 (.inr (.inl rfl)))
      · exact hp _ I.hs.1 I.hs.2.1 (hal _ I.hs.1 I.hs.2.1 (.inr (.inr (.inl rfl))))
      · exact hp _ I.ho.1 I.ho.2.1 (hal _ I.ho.1 I.ho.2.1 (.inr (.inr (.inr rfl))))
      · exact okV_undef _ _)
    (fun τ b cs => row_run (Q := Pre) (w := { loneW (fnsC rowFs v (RdS Rd S) No C) v with tape := τ, drawn := 0 }) (row_any A c x A2 c2 sl C sl.length i (sl.getD i 0).toNat bk bs bo { loneW (fnsC rowFs v (RdS Rd S) No C) v with tape := τ, drawn := 0 + 1 } hrx I.x256 I.xb hck hcs hco hi (by omega) b2 o2 hA2 hi hsc (by omega) Pre
      (fun A' c' t0 t5 t6 t7 t8 t9 t10 t11 w' h1 h2 _ => ⟨A', c', t0, t5, t6, t7, t8, t9, t10, t11, rfl, by have := loneW_size (Fs := fnsC rowFs v (RdS Rd S) No C) (v := v); simpa only [this] using h1, by have := loneW_size (Fs := fnsC rowFs v (RdS Rd S) No C) (v := v); simpa only [this] using h2⟩)) b cs)
  refine Go1.bind (fun _ a => RW.refl a) hup ?_
  rintro S' g w ⟨s, ρ, a', wl, rfl, rfl, ⟨A', c', t0, t5, t6, t7, t8, t9, t10, t11, rfl, hown, hnw⟩, hok, hL, hout⟩
  have hCid : ρ.f C = C := hL.id C hW.c.1
  have hSlo : ∀ b, s b → v.heap.size ≤ b := by
    intro b hb
    rcases (hL.mine b).1 hb with h | ⟨c, h1, _, e⟩
    · exact h.elim
    · have := hL.new c h1; omega
  have hw0v : w0.heap.size ≤ v.heap.size := by omega
  have hJw : JR Shun C w0 x sl k j i S w :=
    ⟨⟨⟨hL.tape.trans hJ.1.1.1, hL.os.trans hJ.1.1.2.1, hL.output.trans hJ.1.1.2.2⟩, fun y hy hC => (hL.rd y (.inl (hR y ⟨hy, hC⟩))).trans (hJ.1.2.1 y hy hC), hJ.1.2.2.trans (hout.weaken fun _ h => h.elim)⟩, hJ.2.1, hJ.2.2.1,
      hJ.2.2.2.stay (fun b hb => hL.rd b (.inr hb)) hout (fun o ho => ho.2) fun _ h => h⟩
  have hN : NewRow w0.heap.size v.heap.size x (sl.getD i 0).toNat (A'.map (renS ρ)) (fun b => S b ∨ s b) w := by
    refine ⟨fun hne => ?_, fun a ha => ?_⟩
    · obtain ⟨g, ex, e1, e2, e3⟩ := (hL.own (fun b hb => (fnsC_new hW.c.1 hb).1) (fun y => by simp) hown).1 hne
      exact ⟨g, ex, e1, by omega, e3⟩
    · obtain ⟨a0, rfl, rfl⟩ := Option.map_eq_some_iff.1 ha
      obtain ⟨q1, q2⟩ := hnw a0 rfl
      have hlt : a0.block < wl.heap.size := by
        obtain ⟨⟨_, _, q3, _⟩, _⟩ := q2
        exact (Array.getElem?_eq_some_iff.1 q3).1
      rw [renS_none _ q2.2]
      exact ⟨.inr ((hL.mine _).2 (.inr ⟨a0.block, q1, hlt, rfl⟩)), hL.new _ q1, left_ints hL (fnsC_new hW.c.1 q1).1 q2.1, q2.2⟩
  have hlo' : ∀ b, (S b ∨ s b) → w0.heap.size ≤ b := fun b hb => hb.elim (hJ.2.1 b) fun h => by have := hSlo b h; omega
  have hCS : ¬ (S C ∨ s C) := fun h => h.elim hW.c.2 fun h => by have := hSlo C h; have := hW.c.1; omega
  have hF : JR Shun C w0 x sl k j i S w ∧ NewRow w0.heap.size v.heap.size x (sl.getD i 0).toNat (A'.map (renS ρ)) (fun b => S b ∨ s b) w := ⟨hJw, hN⟩
  have rl : ∀ {a b : World}, JR Shun C w0 x sl k j i S a ∧ NewRow w0.heap.size v.heap.size x (sl.getD i 0).toNat (A'.map (renS ρ)) (fun b => S b ∨ s b) a → RW link.tWg Wg C (fun o => o % k = j) Rd (fun b => S b ∨ s b) a b →
      JR Shun C w0 x sl k j i S b ∧ NewRow w0.heap.size v.heap.size x (sl.getD i 0).toNat (A'.map (renS ρ)) (fun b => S b ∨ s b) b := fun h r =>
    ⟨⟨h.1.1.rely hR r, h.1.2.1, h.1.2.2.1, h.1.2.2.2.stay (fun b hb => r.own b (.inl hb)) r.out (fun o ho => ho.2) fun _ h => h⟩, h.2.rely r.own⟩
  simp only [List.map_toArray, List.map_cons, List.map_nil, ren_pointer, ren_slice, Option.map_some, renA, hCid]
  generalize ren ρ t0 = t0
  generalize ren ρ t5 = t5
  generalize ren ρ t6 = t6
  generalize ren ρ t7 = t7
  generalize ren ρ t8 = t8
  generalize ren ρ t9 = t9
  generalize ren ρ t10 = t10
  generalize ren ρ t11 = t11
  generalize ren ρ undef = t4
  simp only [rowOps, Try.f82]
  refine go1_op rfl rfl (by k_ne) (fun w₂ h₂ K hK => ?_)
  replace hF := rl hF h₂
  clear h₂
  obtain ⟨cs0, t, hC0, hC1⟩ := I.hC
  obtain ⟨cs1, hC2, hC3, _⟩ := hF.1.1.2.2 _ _ _ hC0
  have hi1 : i < cs1.size := by omega
  have hcC : w₂.cell? ⟨C, i, none⟩ = some cs1[i] := by simp [World.cell?, hC2, hi1]
  have hfz : w₂.frozen? ⟨C, i, none⟩ = false := by simp [World.frozen?, hC2]
  go_simp
  refine hK _ _ ⟨_, dw_store (o := i) hJ.2.2.1 (fun e he => ?_), ?_⟩
  · have hm := mem_listed he
    simp [go_sem, storedEv, *] at hm
    exact hm
  clear hK K
  replace hF := jr_store (cc := c') hF.1 hW.s (fun _ h => .inl h) hlo' hF.2 hCS ⟨_, hcC⟩
  clear hcC hfz hC2 hi1
  generalize w₂.setCell _ _ = w₃ at hF ⊢
  have rl2 : ∀ {a b : World}, JR Shun C w0 x sl k j (i + k) (fun b => S b ∨ s b) a → RW link.tWg Wg C (fun o => o % k = j) Rd (fun b => S b ∨ s b) a b → JR Shun C w0 x sl k j (i + k) (fun b => S b ∨ s b) b := fun h r => h.rely hR r
  refine gw_last (n := 6) ?_
  (u_in rl2 hF; rw [stepG_region_end]; simp only [goes_go]; refine ⟨by (refine de1_none ?_; intro e he; simp at he), ?_⟩)
  (u_in rl2 hF; rw [stepG_end]; simp only [goes_go]; refine ⟨by (refine de1_none ?_; intro e he; simp at he), ?_⟩)
  (u_in rl2 hF; refine goes_leave0 rfl rfl Try.func82 rfl ⟨by (refine de1_none ?_; intro e he; simp at he), ?_⟩; walk_nrm)
  exact Goes.stop fun w₁ h₁ => ⟨rfl, rl2 hF h₁⟩
theorem nm_row : (Try.f82.name == "runtime.NumGoroutine") = false := by kernel_rfl
/-- ████ .. AS sharedWork ASKS FOR IT. ████ -/
theorem row_task (I : RowIn Shun w0 A c x A2 c2 sl C bk bs bo) (hk : 1 ≤ k ∧ k < 65536) (hWg : w0.heap.size ≤ Wg) (b1 b2 b3 : Nat) :
    Task Wg C b1 b2 b3 sl.length k 82 #[ptr bk, ptr bs, ptr bo] (fun b => FreeB Shun w0 b ∧ b ≠ C) (fun j o => o % k = j) (U0 Shun C w0) (fun j i S w => JR Shun C w0 x sl k j i S w) (fun j S w => FactR w0.heap.size C x sl k j S w) where
  hn := by have := I.s32; omega
  hk := hk
  fn := ⟨_, _, Try.func82, nm_row, row_body⟩
  hU := fun a b ht hx hC h => ⟨⟨ht.1.trans h.1.1, ht.2.1.trans h.1.2.1, ht.2.2.trans h.1.2.2⟩, fun y hy hyC => (hx y ⟨hy, hyC⟩).trans (h.2.1 y hy hyC), h.2.2.trans hC⟩
  hJ := fun j Rd i S a b hR r h => h.rely hR r
  hF := fun j S a b hS hC h => ⟨h.1, h.2.stay hS hC (fun o ho => ho.2) fun _ h => h⟩
  h0 := fun j w hj hU => ⟨hU, fun b hb => hb.elim, Nat.mod_eq_of_lt hj, fun _ => none, fun _ => 0, fun o ho => (by
    have h1 := ho.1
    have h2 := ho.2
    rw [Nat.mod_eq_of_lt (by omega)] at h2
    omega), fun o o' a a' _ _ h => by cases h⟩
  hend := fun j i S w hi h => ⟨h.2.1, h.2.2.2.sub fun o ho => ⟨by omega, ho.2⟩⟩
  hdo := fun j hj Rd bw bf b1 hR i S w b a ops xx rest kk cs hi hI hJ => row_do I hk.1 hWg hR hi hI.geo hJ b a ops xx rest kk cs
end
end Go.Proofs.Ytmmolicodlmlkaa.Ph
namespace Go.Proofs.Ytmmolicodlmlkaa.Ph
open Go.Conc Go.RowKit
open Go.Proofs.Ytmmolicodlmlkaa.Rel
set_option linter.unusedVariables false

section
variable {P : Program} {fs : FuncId → Bool} {v : World} {F W : Nat → Prop} {cs : List Frame} {Stop : (Nat → Prop) → Goroutine → World → Prop} {g : Goroutine} {w : World}
/-- What is read alone is its own too, beside leavers. -/
theorem gl_of (hsub : ∀ b, W b → F b) (h : Go1 P true (RS (fun b => F b ∧ ¬ W b)) (DS (fun b => F b ∧ ¬ W b)) Stop W g w) : GL P (fun t g w => ∃ s, t = (fun b => (F b ∧ ¬ W b) ∨ s b) ∧ Stop s g w) F g w := by
  have h1 := go1_map (φ := fun (s : Nat → Prop) b => (F b ∧ ¬ W b) ∨ s b) (R' := RS No) (D' := DS No) (I := fun _ _ => True)
    (fun s a b _ r => ⟨r.tape, r.os, r.output, r.size, fun y hy => r.own y (.inr hy), fun y hy => r.own y (.inl hy)⟩) (fun _ _ _ _ _ => trivial) (fun s a b es s' _ d => ⟨⟨d.tape, d.os, d.output, d.size, fun y => ?_, fun y hy hn => d.old y hy fun h => hn (.inr h), fun e he => ?_⟩, trivial⟩) trivial h
  · have e0 : (fun b => (F b ∧ ¬ W b) ∨ W b) = F := by
      funext b
      apply propext
      by_cases hb : W b
      · simp [hb, hsub b hb]
      · simp [hb]
    rw [e0] at h1
    obtain ⟨T, h1⟩ := h1
    exact ⟨T, h1.mono (fun _ _ _ h => h) (fun _ _ _ _ _ h => h) fun t g w ⟨s, e, _, hs⟩ => ⟨s, e, hs⟩⟩
  · have := d.own y
    constructor
    · rintro (h | h)
      · exact .inl (.inl h)
      · exact (this.1 h).imp .inr id
    · rintro ((h | h) | h)
      · exact .inl h
      · exact .inr (this.2 (.inl h))
      · exact .inr (this.2 (.inr h))
  · rcases d.evs e he with ⟨ad, l1, l2, l3⟩ | ⟨r, l1, l2, l3⟩ | l
    · exact .inl ⟨ad, l1, .inl (l2.elim .inr fun h => .inl h.1), l3⟩
    · exact .inr (.inl ⟨r, l1, .inl (l2.elim .inr fun h => .inl h.1), l3⟩)
    · exact .inr (.inr l)
/-- The lone walk through the first n statements comes to a return. -/
def Rets (P : Program) (f : FuncId) (n : Nat) (c : Code) (Post : Value → World → Prop) (a : Act) (w : World) : Prop :=
  (cut n c).1.wp P (fun e a' w' => e = .ret ∧ a'.defers = [] ∧ ∃ fn v, P.funcs[f]? = some fn ∧ (results fn a'.tmps).run P w' = .ok v w' ∧ Post v w') a w
end
section
variable {P : Program} {fs : FuncId → Bool} {v : World} {Rd S : Nat → Prop} {cs : List Frame} {main : Bool}
/-- ████ TO A RETURN AHEAD OF A CUT, IN COMPANY. ████ -/
theorem ret_company {f : FuncId} {fn0 : Func} {c : Code} {n : Nat} {a : Act} {Q : Value → World → Prop} (hz : ZeroOk P) (hG : P.globals.size ≤ v.heap.size) (hO : ∀ ρ, FnsOk ⟨P, ρ, fnsOf fs v (fun b => S b ∨ Rd b) S⟩) (hS : ∀ b, S b → b < v.heap.size) (hR : ∀ b, Rd b → b < v.heap.size ∧ ¬ S b)
    (hf0 : P.funcs[f]? = some fn0) (hres0 : fn0.results.all resOk = true) (hsp : spineOk P (fnsOf fs v (fun b => S b ∨ Rd b) S) n c = true) (hd : a.defers = []) (ha : ∀ x ∈ a.tmps, okV (fnsOf fs v (fun b => S b ∨ Rd b) S) v.heap.size x = true)
    (hl : ∀ τ, Rets P f n c Q a { loneW (fnsOf fs v (fun b => S b ∨ Rd b) S) v with tape := τ, drawn := 0 }) :
    Go1 P main (RS Rd) (DS Rd) (RetC P (fnsOf fs v (fun b => S b ∨ Rd b) S) v Rd S f cs Q) S (G ((base f).at a [.code c]) cs) v := by
  classical
  have hal : ∀ b, b < v.heap.size → (fnsOf fs v (fun b => S b ∨ Rd b) S).al b = true → (S b ∨ Rd b) ∧ plainO v.heap[b]? = true := by
    intro b hb h
    simp only [fnsOf, hb, if_true, Bool.and_eq_true, decide_eq_true_eq] at h
    exact h
  have hwrs : ∀ b, b < v.heap.size → (fnsOf fs v (fun b => S b ∨ Rd b) S).wr b = true → S b := by
    intro b hb h
    simpa only [fnsOf, hb, if_true, decide_eq_true_eq] using h
  generalize hFs : fnsOf fs v (fun b => S b ∨ Rd b) S = Fs at *
  let StopL : Frame → List Frame → World → Prop := fun fl cl w => ∃ u, Q u w ∧ cl = [badF] ∧ fl.fn = f ∧ fl.leaving P w (.returned u)
  have U := setup_lone (P := P) (fs := fs) (v := v) (Rd := Rd) (S := S) (cs := cs) (kl := [.code (.refuse "")]) (kc := [.code (cut n c).2]) (fl0 := (base f).at a [.code (cut n c).1]) (fc0 := (base f).at a [.code c]) (StopL := StopL) hz hG (by rw [hFs]; exact hO) hS hR (.inr rfl)
    (by
      rw [hFs]
      intro ρ hρ
      refine ⟨rfl, ⟨?_, fun x hx => okV_okJ _ _ _ (ha x hx)⟩, ⟨[], _, _, rfl, rfl, by simp, tl_cut n c hsp⟩, hd, hd, .inl ⟨rfl, rfl⟩, rfl, rfl, rfl, rfl⟩
      apply Array.ext (by simp [Frame.at])
      intro i h1 h2
      rw [Array.getElem_map]
      exact (ren_agree hρ _ (ha _ (Array.getElem_mem h1))).symm)
    (by
      rw [hFs]
      intro τ
      obtain ⟨e, a', w', ⟨rfl, hdf, fn, u, hfn, hr, hq⟩, harr⟩ := hl τ (base f) [] [badF]
      obtain ⟨todo, M, hM⟩ := harr
      exact ⟨M, _, _, w', hM, u, hq, rfl, rfl, rfl, hdf, rfl, fn, hfn, hr⟩)
    (fun fl cl w ⟨u, _, h1, _, h2⟩ => ⟨fun ch h => (by rw [h2.1] at h; cases h), (by rw [h1]; simp)⟩)
  rw [hFs] at U
  refine (Go1.bind (fun s a => RS.refl a) (transfer (main := main) U) fun s g w ⟨ρ, fl, cl, wl, hA, u, hq, hcl, hfn, hlv⟩ => Go1.stop fun w₁ h₁ => ?_)
  subst hcl
  obtain ⟨fc, cc, rfl, hst⟩ := hA.st
  have hfr : FR ⟨P, ρ, Fs⟩ wl.heap.size [.code (.refuse "")] [.code (cut n c).2] fl fc ∧ cc = cs := by
    rcases hst.fr with ⟨h, _, h2⟩ | ⟨_, _, _, h⟩
    · exact ⟨h, h2⟩
    · exfalso
      cases h with
      | cons _ _ _ h => cases h
  obtain ⟨hfr, rfl⟩ := hfr
  obtain ⟨hm, hd, hk, fn, hfn1, hres⟩ := hlv
  have hmode : fc.mode = .returning := by
    rcases hfr.mode with ⟨h1, _⟩ | ⟨_, h2⟩
    · rw [hm] at h1; cases h1
    · exact h2
  have g1 := hf0
  have g5 := hres0
  have g1' : P.funcs[f]? = some fn0 := g1
  rw [hfn] at hfn1
  rw [g1'] at hfn1
  obtain rfl := Option.some.inj hfn1
  obtain ⟨e2, hout⟩ := ret_out (fun b hb h => (hal b hb h).1) hwrs hA hfr g5 hres h₁
  have hwr1 : WR ⟨P, ρ, Fs⟩ wl w₁ := hA.wr.rely fun c hc hca => by
    show w₁.heap[ρ.f c]? = w.heap[ρ.f c]?
    rcases Nat.lt_or_ge c v.heap.size with hb | hb
    · rw [hA.id c hb]
      rcases (hal c hb hca).1 with h | h
      · exact h₁.own c ((hA.mine c).2 (.inl h))
      · exact h₁.rd c h
    · exact h₁.own _ (hA.cover c hb hc)
  exact ⟨⟨ρ, fc, u, wl, rfl, hfr.fn.trans hfn, hmode, hfr.defc, hfr.kindc, ⟨fn0, g1', hout⟩, hq, e2, hA.id, hA.new, hwr1, hA.low, hA.mine⟩, h₁.tape.trans hA.tape, h₁.os.trans hA.os, h₁.output.trans hA.output, Nat.le_trans hA.size h₁.size, fun b hb => (h₁.rd b hb).trans (hA.rd b hb)⟩
end
/-! ### beside leavers: F is free, W of it is written -/
noncomputable abbrev fnsQ (fs : FuncId → Bool) (v : World) (F W : Nat → Prop) : Fns := fnsOf fs v (fun b => W b ∨ (F b ∧ ¬ W b)) W
section
variable {P : Program} {fs : FuncId → Bool} {v : World} {F W : Nat → Prop} {cs : List Frame}
theorem fnsQ_old {b : Nat} (h : b < v.heap.size) (hF : F b) (hp : plainO v.heap[b]? = true) : (fnsQ fs v F W).al b = true :=
  fnsOf_old (al := fun b => W b ∨ (F b ∧ ¬ W b)) h ((Classical.em (W b)).imp id fun hw => ⟨hF, hw⟩) hp
theorem fnsQ_ok {b : Nat} (hF : ∀ b, F b → b < v.heap.size) (h : F b) (hp : plainO v.heap[b]? = true) : Rel.inB (fnsQ fs v F W) v.heap.size b = true := by
  simp [Rel.inB, hF b h, fnsQ_old (fs := fs) (W := W) (hF b h) h hp]
theorem gl_cut {f : FuncId} {c : Code} {n : Nat} {a : Act} {Pre : Act → World → Prop} (hsub : ∀ b, W b → F b) (hF : ∀ b, F b → b < v.heap.size) (hz : ZeroOk P) (hG : P.globals.size ≤ v.heap.size) (hO : ∀ f, fs f = true → ∃ fn, P.funcs[f]? = some fn ∧ fnOk P fs fn = true)
    (hsp : spineOk P ⟨fs, fun _ => false, fun _ => false, fun _ => false⟩ n c = true) (hd : a.defers = []) (ha : ∀ x ∈ a.tmps, okV (fnsQ fs v F W) v.heap.size x = true) (hl : ∀ τ, Rel.Reach P n c Pre a { loneW (fnsQ fs v F W) v with tape := τ, drawn := 0 }) :
    GL P (fun t g w => ∃ s, t = (fun b => (F b ∧ ¬ W b) ∨ s b) ∧ ∃ ρ a' wl, g = G ((base f).at ⟨a'.tmps.map (ren ρ), []⟩ [.code (cut n c).2]) cs ∧ Pre a' wl ∧ (∀ x ∈ a'.tmps, okJ (fnsQ fs v F W) wl.heap.size x = true) ∧ Rel.Left P (fnsQ fs v F W) v (fun b => F b ∧ ¬ W b) W ρ wl s w) F (G ((base f).at a [.code c]) cs) v :=
  gl_of hsub (cut_company hz hG (fun ρ => by unfold fnsOf; exact fnsOk_of hO) (fun b hb => hF b (hsub b hb)) (fun b hb => ⟨hF b hb.1, hb.2⟩) (by unfold fnsOf; exact spine_mono n c hsp) hd ha hl)
theorem gl_ret {f : FuncId} {fn0 : Func} {c : Code} {n : Nat} {a : Act} {Q : Value → World → Prop} (hsub : ∀ b, W b → F b) (hF : ∀ b, F b → b < v.heap.size) (hz : ZeroOk P) (hG : P.globals.size ≤ v.heap.size) (hO : ∀ f, fs f = true → ∃ fn, P.funcs[f]? = some fn ∧ fnOk P fs fn = true)
    (hf0 : P.funcs[f]? = some fn0) (hres0 : fn0.results.all resOk = true) (hsp : spineOk P ⟨fs, fun _ => false, fun _ => false, fun _ => false⟩ n c = true) (hd : a.defers = []) (ha : ∀ x ∈ a.tmps, okV (fnsQ fs v F W) v.heap.size x = true) (hl : ∀ τ, Rets P f n c Q a { loneW (fnsQ fs v F W) v with tape := τ, drawn := 0 }) :
    GL P (fun t g w => ∃ s, t = (fun b => (F b ∧ ¬ W b) ∨ s b) ∧ RetC P (fnsQ fs v F W) v (fun b => F b ∧ ¬ W b) W f cs Q s g w) F (G ((base f).at a [.code c]) cs) v :=
  gl_of hsub (ret_company hz hG (fun ρ => by unfold fnsOf; exact fnsOk_of hO) (fun b hb => hF b (hsub b hb)) (fun b hb => ⟨hF b hb.1, hb.2⟩) hf0 hres0 (by unfold fnsOf; exact spine_mono n c hsp) hd ha hl)
theorem gl_call {f : FuncId} {args : Array Value} {Q : Value → World → Prop} (hsub : ∀ b, W b → F b) (hF : ∀ b, F b → b < v.heap.size) (hz : ZeroOk P) (hG : P.globals.size ≤ v.heap.size) (hO : ∀ f, fs f = true → ∃ fn, P.funcs[f]? = some fn ∧ fnOk P fs fn = true)
    (hf : fs f = true) (ha : ∀ x ∈ args, okV (fnsQ fs v F W) v.heap.size x = true) (hl : ∀ τ, Calls P f args { loneW (fnsQ fs v F W) v with tape := τ, drawn := 0 } fun | .returned u, w => Q u w | _, _ => False) :
    GL P (fun t g w => ∃ s, t = (fun b => (F b ∧ ¬ W b) ∨ s b) ∧ RetC P (fnsQ fs v F W) v (fun b => F b ∧ ¬ W b) W f cs Q s g w) F (G (Frame.enter P f args .normal) cs) v :=
  gl_of hsub (call_company hz hG (fun ρ => by unfold fnsOf; exact fnsOk_of hO) (fun b hb => hF b (hsub b hb)) (fun b hb => ⟨hF b hb.1, hb.2⟩) hf ha hl)
end
section
variable {P : Program} {fs : FuncId → Bool} {v : World} {F W : Nat → Prop} {cs : List Frame} {f : FuncId} {Q : Value → World → Prop} {b₀ : Frame} {a₀ : Act} {ops₀ : Array Oper} {i₀ : Nat} {rest₀ : List Nat} {k₀ : List Item} {g : Goroutine} {w : World}
theorem fnsQ_al {b : Nat} (hsub : ∀ b, W b → F b) (hb : b < v.heap.size) (h : (fnsQ fs v F W).al b = true) : F b := by
  classical
  simp only [fnsQ, fnsOf, hb, if_true, Bool.and_eq_true, decide_eq_true_eq] at h
  exact h.1.elim (hsub b) (·.1)
theorem fnsQ_new {b : Nat} (h : v.heap.size ≤ b) : (fnsQ fs v F W).al b = true ∧ (fnsQ fs v F W).wr b = true := fnsOf_new h
theorem left_rs {s : Nat → Prop} {ρ : Rn} {wl w w₁ : World} (hsub : ∀ b, W b → F b) (h : Rel.Left P (fnsQ fs v F W) v (fun b => F b ∧ ¬ W b) W ρ wl s w) (r : RS No (fun b => (F b ∧ ¬ W b) ∨ s b) w w₁) : Rel.Left P (fnsQ fs v F W) v (fun b => F b ∧ ¬ W b) W ρ wl s w₁ :=
  left_relyB (Bd := fun _ => False) h (fun b hb ha _ => by
    have := fnsQ_al hsub hb ha
    by_cases hw : W b
    · exact .inl hw
    · exact .inr ⟨this, hw⟩) (fun b hb => by cases hb) ⟨⟨r.tape, r.os, r.output, r.size, fun y hy => r.own y (.inr hy), fun y hy => r.own y (.inl hy)⟩, fun _ h => h.elim⟩
/-- What a call leaves, back in its caller's frame. -/
def Back (P : Program) (fs : FuncId → Bool) (v : World) (F W : Nat → Prop) (Q : Value → World → Prop) (b₀ : Frame) (a₀ : Act) (d : Option Tmp) (k : List Item) (cs : List Frame) (t : Nat → Prop) (g : Goroutine) (w : World) : Prop :=
  ∃ s, t = (fun b => (F b ∧ ¬ W b) ∨ s b) ∧ ∃ ρ u wl, g = G (b₀.at (a₀.put d (ren ρ u)) k) cs ∧ Q u wl ∧ okJ (fnsQ fs v F W) wl.heap.size u = true ∧ Rel.Left P (fnsQ fs v F W) v (fun b => F b ∧ ¬ W b) W ρ wl s w
theorem gl_back (hsub : ∀ b, W b → F b)
    (h : GL P (fun t g w => ∃ s, t = (fun b => (F b ∧ ¬ W b) ∨ s b) ∧ RetC P (fnsQ fs v F W) v (fun b => F b ∧ ¬ W b) W f (b₀.at a₀ (.inRegion ops₀ (i₀ :: rest₀) :: k₀) :: cs) Q s g w) F g w) :
    GL P (Back P fs v F W Q b₀ a₀ ((ops₀[i₀]?).bind (·.dst)) (.inRegion ops₀ rest₀ :: k₀) cs) F g w := by
  refine Go1.bind (fun _ a => RS.refl a) h ?_
  rintro t g w ⟨s, rfl, hC⟩
  obtain ⟨ρ, fc, u, wl, rfl, hf, hm, hd, hk, ⟨fn, hfn, hres⟩, hq, hok, hid, hnew, hwr, hlow, hmine⟩ := hC.out
  have hL : Rel.Left P (fnsQ fs v F W) v (fun b => F b ∧ ¬ W b) W ρ wl s w := ⟨hid, hnew, hwr, hlow, hmine, hC.tape, hC.os, hC.output, hC.size, hC.rd⟩
  refine Go1.step rfl fun w₁ h₁ => ?_
  obtain ⟨es, hrun, hev⟩ := hres w₁ (fun b hb => h₁.own b (hb.elim .inr .inl))
  have hs := sg_leave (P := P) (main := true) (c := b₀.at a₀ (.inRegion ops₀ (i₀ :: rest₀) :: k₀)) (cs := cs) (w := w₁) hm hd hk (by rw [hf]; exact hfn) hrun
  rw [Frame.finish_at] at hs
  refine ⟨_, _, _, _, hs, ds_same ⟨rfl, fun e he => ?_⟩, Go1.stop fun w₂ h₂ => ⟨s, rfl, ρ, u, wl, rfl, hq, hok, left_rs hsub hL (h₁.trans h₂)⟩⟩
  rcases hev e (seen_sub he) with ⟨ad, l1, l2, l3⟩ | ⟨r, l1, l2, l3⟩ | l
  · exact .inl ⟨ad, l1, .inl (l2.elim .inr fun h => .inl h.1), l3⟩
  · exact .inr (.inl ⟨r, l1, .inl (l2.elim .inr fun h => .inl h.1), l3⟩)
  · exact .inr (.inr l)
end
end Go.Proofs.Ytmmolicodlmlkaa.Ph
namespace Go.Proofs.Ytmmolicodlmlkaa.Ph
open Go.Conc Go.ConcN Go.RowKit
open Go.Proofs.Ytmmolicodlmlkaa.Rel
set_option linter.unusedVariables false
set_option linter.unusedSimpArgs false

theorem areWorkers_any (n : Int) (w : World) : Calls Try.prog 80 #[.int .i64 n] w fun e w' => e = .returned (.bool (Go.Proofs.Ytmmolicodlmlkaa.inB n 1 8)) ∧ w = w' := by
  go_enter Try.func80, Try.ntmps80
  go_wp2_with (go_at_call 97; refine (within_any _ _ _ _).mono ?_; rintro e w' ⟨rfl, rfl⟩)
  go_ret
  exact ⟨rfl, rfl⟩
noncomputable def bodyRS : Code := match Try.f24.body with | some c => c | _ => .skip
abbrev actRS (A : Option Addr) (n c : Nat) (A2 : Option Addr) (n2 c2 : Nat) (kw : Int) : Act :=
  ⟨#[.slice A n c, .slice A2 n2 c2, .int .i64 kw, undef, undef, undef, undef, undef, undef, undef, undef, undef, undef, undef, undef, undef, undef, undef, undef, undef, undef, undef, undef, undef, undef, undef, undef, undef, undef, undef, undef, undef, undef, undef, undef, undef], []⟩
/-- What stands at the call of sharedWork. -/
def PreRS (A : Option Addr) (c : Nat) (x : List Int) (A2 : Option Addr) (c2 : Nat) (sl : List Int) (kw : Int) (B : Nat) (a' : Act) (w' : World) : Prop :=
  ∃ bk bs bo C v9 v10 v11 v12 v13 v14 v15 v16 v17 v18 v19 v20 v21 v22 v23 v24 v25 v26 v27 v28 v29,
    a' = ⟨#[.slice A x.length c, .slice A2 sl.length c2, .int .i64 kw, ptrB bk, ptrB bs, undef, .slice none 0 0, .bool false, ptrB bo, v9, v10, v11, v12, v13, v14, v15, v16, v17, v18, v19, v20, v21, v22, v23, v24, v25, v26, v27, v28, v29, undef, undef, undef, undef, undef, undef], []⟩ ∧
    B ≤ bk ∧ B ≤ bs ∧ B ≤ bo ∧ B ≤ C ∧ bk ≠ C ∧ bs ≠ C ∧ bo ≠ C ∧
    w'.heap[bk]? = some (.cells #[.slice A x.length c] 22 (0, 0)) ∧ w'.heap[bs]? = some (.cells #[.slice A2 sl.length c2] 22 (0, 0)) ∧ w'.heap[bo]? = some (.cells #[.slice (some ⟨C, 0, none⟩) sl.length sl.length] 29 (0, 0)) ∧
    ∃ cs, w'.heap[C]? = some (.cells cs 22 (0, 0)) ∧ cs.size = sl.length
set_option maxRecDepth 100000 in
set_option maxHeartbeats 1600000 in
theorem rows_reach (A : Option Addr) (c : Nat) (x : List Int) (A2 : Option Addr) (c2 : Nat) (sl : List Int) (kw : Int) (w : World) (hx : RdL (Value.int .i64) w A x) (hs : RdL (Value.int .i64) w A2 sl) (hxn : x.length ≤ 1048576) (hsn : sl.length ≤ 1048576)
    (h1 : keysQ x = true) (h2 : sl.length ≤ 32) (h3 : allB sl 0 4294967295 = true) (h4 : Go.Proofs.Ytmmolicodlmlkaa.inB kw 1 8 = true) :
    Rel.Reach Try.prog 3 bodyRS (PreRS A c x A2 c2 sl kw w.heap.size) (actRS A x.length c A2 sl.length c2 kw) w := by
  have HX := hid hx
  have HS := hid hs
  have h2' : ¬ (sl.length : Int) > 32 := by omega
  have hmk := run_make_row' (P := Try.prog) 29 22 (.slice none 0 0) 24 Try.underlying29 (by kernel_rfl) rfl .i64 .i64 sl.length (by omega) (by omega)
  clear hx hs
  simp only [bodyRS, Try.f24]
  refine reach_seq ?_
  go_wp2
  have HX1 := hid (HX.out.below (below_a2 w (.cells #[.slice A x.length c] 22) (.cells #[.slice A2 sl.length c2] 22)))
  have HS1 := hid (HS.out.below (below_a2 w (.cells #[.slice A x.length c] 22) (.cells #[.slice A2 sl.length c2] 22)))
  refine reach_seq ?_
  go_wp2_with (first | (go_at_call 65; refine (AreKeys_q A c x _ HX1.out hxn).mono ?_; rw [h1]; rintro e w' ⟨rfl, rfl⟩) | (go_at_call 79; refine (areAllKeys_any A2 c2 sl _ HS1.out hsn).mono ?_; rw [h3]; rintro e w' ⟨rfl, rfl⟩) | (go_at_call 80; refine (areWorkers_any kw _).mono ?_; rw [h4]; rintro e w' ⟨rfl, rfl⟩))
  refine reach_seq ?_
  go_wp2
  refine reach_here ?_
  generalize ho1 : Obj.cells #[Value.slice A x.length c] 22 = o1
  generalize ho2 : Obj.cells #[Value.slice A2 sl.length c2] 22 = o2
  generalize ho3 : Obj.cells (madeCells #[Value.slice none 0 0] sl.length) 22 = o3
  generalize ho4 : Obj.cells #[Value.slice (some ⟨w.heap.size + 1 + 1, 0, none⟩) sl.length sl.length] 29 = o4
  have e1 : ((((w.alloc o1).alloc o2).alloc o3).alloc o4).heap[w.heap.size]? = some o1 := by
    rw [heap_alloc_old _ _ (by simp only [World.size_alloc]; omega), heap_alloc_old _ _ (by simp only [World.size_alloc]; omega), heap_alloc_old _ _ (by simp only [World.size_alloc]; omega), heap_alloc_new]
  have e2 : ((((w.alloc o1).alloc o2).alloc o3).alloc o4).heap[w.heap.size + 1]? = some o2 := by
    rw [heap_alloc_old _ _ (by simp only [World.size_alloc]; omega), heap_alloc_old _ _ (by simp only [World.size_alloc]; omega)]
    have := heap_alloc_new (w.alloc o1) o2
    simpa only [World.size_alloc] using this
  have e3 : ((((w.alloc o1).alloc o2).alloc o3).alloc o4).heap[w.heap.size + 1 + 1]? = some o3 := by
    rw [heap_alloc_old _ _ (by simp only [World.size_alloc]; omega)]
    have := heap_alloc_new ((w.alloc o1).alloc o2) o3
    simpa only [World.size_alloc] using this
  have e4 : ((((w.alloc o1).alloc o2).alloc o3).alloc o4).heap[w.heap.size + 1 + 1 + 1]? = some o4 := by
    have := heap_alloc_new (((w.alloc o1).alloc o2).alloc o3) o4
    simpa only [World.size_alloc] using this
  refine ⟨w.heap.size, w.heap.size + 1, w.heap.size + 1 + 1 + 1, w.heap.size + 1 + 1, _, _, _, _, _, _, _, _, _, _, _, _, _, _, _, _, _, _, _, _, _, rfl, by omega, by omega, by omega, by omega, by omega, by omega, by omega, ?_, ?_, ?_, madeCells #[Value.slice none 0 0] sl.length, ?_, ?_⟩
  · rw [e1, ← ho1]
  · rw [e2, ← ho2]
  · rw [e4, ← ho4]
  · rw [e3, ← ho3]
  · simp [size_madeCells]
/-- Is it worked on? -/
def gateRS (x sl : List Int) (kw : Int) : Bool := keysQ x && decide (sl.length ≤ 32) && allB sl 0 4294967295 && Go.Proofs.Ytmmolicodlmlkaa.inB kw 1 8
set_option maxRecDepth 100000 in
set_option maxHeartbeats 1600000 in
theorem rows_rets (A : Option Addr) (c : Nat) (x : List Int) (A2 : Option Addr) (c2 : Nat) (sl : List Int) (kw : Int) (w : World) (hx : RdL (Value.int .i64) w A x) (hs : RdL (Value.int .i64) w A2 sl) (hxn : x.length ≤ 1048576) (hsn : sl.length ≤ 1048576) (hg : gateRS x sl kw = false) :
    Rets Try.prog 24 2 bodyRS (fun u w' => u = .tuple #[.slice none 0 0, .bool false] ∧ Below w.heap.size w w') (actRS A x.length c A2 sl.length c2 kw) w := by
  have HX := hid hx
  have HS := hid hs
  clear hx hs
  simp only [Rets, bodyRS, Try.f24, cut]
  have HX1 := hid (HX.out.below (below_a2 w (.cells #[.slice A x.length c] 22) (.cells #[.slice A2 sl.length c2] 22)))
  have HS1 := hid (HS.out.below (below_a2 w (.cells #[.slice A x.length c] 22) (.cells #[.slice A2 sl.length c2] 22)))
  cases h1 : keysQ x with
  | false =>
    clear hg
    go_wp2_with (first | (go_at_call 65; refine (AreKeys_q A c x _ HX1.out hxn).mono ?_; rw [h1]; rintro e w' ⟨rfl, rfl⟩))
    exact ⟨.tuple #[.slice none 0 0, .bool false], results_tmp2 (t := 6) (u := 7) rfl _ _ _, rfl, below_a2 w _ _⟩
  | true =>
  cases h2 : decide (sl.length ≤ 32) with
  | false =>
    clear hg
    have h2' : (sl.length : Int) > 32 := by have := of_decide_eq_false h2; omega
    clear h2
    go_wp2_with (first | (go_at_call 65; refine (AreKeys_q A c x _ HX1.out hxn).mono ?_; rw [h1]; rintro e w' ⟨rfl, rfl⟩))
    exact ⟨.tuple #[.slice none 0 0, .bool false], results_tmp2 (t := 6) (u := 7) rfl _ _ _, rfl, below_a2 w _ _⟩
  | true =>
  have h2' : ¬ (sl.length : Int) > 32 := by have := of_decide_eq_true h2; omega
  cases h3 : allB sl 0 4294967295 with
  | false =>
    clear hg h2
    go_wp2_with (first | (go_at_call 65; refine (AreKeys_q A c x _ HX1.out hxn).mono ?_; rw [h1]; rintro e w' ⟨rfl, rfl⟩) | (go_at_call 79; refine (areAllKeys_any A2 c2 sl _ HS1.out hsn).mono ?_; rw [h3]; rintro e w' ⟨rfl, rfl⟩))
    exact ⟨.tuple #[.slice none 0 0, .bool false], results_tmp2 (t := 6) (u := 7) rfl _ _ _, rfl, below_a2 w _ _⟩
  | true =>
  cases h4 : Go.Proofs.Ytmmolicodlmlkaa.inB kw 1 8 with
  | false =>
    clear hg h2
    go_wp2_with (first | (go_at_call 65; refine (AreKeys_q A c x _ HX1.out hxn).mono ?_; rw [h1]; rintro e w' ⟨rfl, rfl⟩) | (go_at_call 79; refine (areAllKeys_any A2 c2 sl _ HS1.out hsn).mono ?_; rw [h3]; rintro e w' ⟨rfl, rfl⟩) | (go_at_call 80; refine (areWorkers_any kw _).mono ?_; rw [h4]; rintro e w' ⟨rfl, rfl⟩))
    exact ⟨.tuple #[.slice none 0 0, .bool false], results_tmp2 (t := 6) (u := 7) rfl _ _ _, rfl, below_a2 w _ _⟩
  | true => simp [gateRS, h1, h2, h3, h4] at hg
end Go.Proofs.Ytmmolicodlmlkaa.Ph
namespace Go.Proofs.Ytmmolicodlmlkaa.Ph
open Go.Conc Go.ConcN Go.RowKit Go.Conc.Lib Go.ConcR.Gen Go.ConcN.Gen
open Go.ConcR (KK wgBlock WgAt stA smA rd wr mk DC0 Payload)
open Go.Proofs.Ytmmolicodlmlkaa.Rel
set_option linter.unusedVariables false
set_option linter.unusedSimpArgs false

def rsFs : FuncId → Bool := fun f => [65, 79, 80, 123, 124, 139, 63, 97].contains f
theorem rsOk1 : fnOk Try.prog rsFs Try.f65 = true := by kernel_rfl
theorem rsOk2 : fnOk Try.prog rsFs Try.f79 = true := by kernel_rfl
theorem rsOk3 : fnOk Try.prog rsFs Try.f80 = true := by kernel_rfl
theorem rsOk4 : fnOk Try.prog rsFs Try.f123 = true := by kernel_rfl
theorem rsOk5 : fnOk Try.prog rsFs Try.f124 = true := by kernel_rfl
theorem rsOk6 : fnOk Try.prog rsFs Try.f139 = true := by kernel_rfl
theorem rsOk7 : fnOk Try.prog rsFs Try.f63 = true := by kernel_rfl
theorem rsOk8 : fnOk Try.prog rsFs Try.f97 = true := by kernel_rfl
theorem rsFs_ok : ∀ f, rsFs f = true → ∃ fn, Try.prog.funcs[f]? = some fn ∧ fnOk Try.prog rsFs fn = true := by
  intro f hf
  simp [rsFs] at hf
  rcases hf with rfl | rfl | rfl | rfl | rfl | rfl | rfl | rfl
  · exact ⟨_, Try.func65, rsOk1⟩
  · exact ⟨_, Try.func79, rsOk2⟩
  · exact ⟨_, Try.func80, rsOk3⟩
  · exact ⟨_, Try.func123, rsOk4⟩
  · exact ⟨_, Try.func124, rsOk5⟩
  · exact ⟨_, Try.func139, rsOk6⟩
  · exact ⟨_, Try.func63, rsOk7⟩
  · exact ⟨_, Try.func97, rsOk8⟩
theorem rs_spine3 : spineOk Try.prog ⟨rsFs, fun _ => false, fun _ => false, fun _ => false⟩ 3 bodyRS = true := by kernel_rfl
theorem rs_spine2 : spineOk Try.prog ⟨rsFs, fun _ => false, fun _ => false, fun _ => false⟩ 2 bodyRS = true := by kernel_rfl
theorem rs_body : Try.f24.body = some bodyRS := rfl
theorem rs_enter (A : Option Addr) (n c : Nat) (A2 : Option Addr) (n2 c2 : Nat) (kw : Int) : Frame.enter Try.prog 24 #[.slice A n c, .slice A2 n2 c2, .int .i64 kw] .normal = (base 24).at (actRS A n c A2 n2 c2 kw) [.code bodyRS] := by
  rw [enter_at _ Try.func24 rs_body]
  kernel_rfl
theorem rs_results : Try.f24.results.all resOk = true := by kernel_rfl
noncomputable def rs4 : Array Oper := match Try.f24.body with | some (.seq _ (.seq _ (.seq _ (.seq (.region _ ops _) _)))) => ops | _ => #[]
noncomputable def rs5 : Code := match Try.f24.body with | some (.seq _ (.seq _ (.seq _ (.seq _ c)))) => c | _ => .skip
theorem nm_shared : (Try.f81.name == "runtime.NumGoroutine") = false := by kernel_rfl
section
variable {F : Nat → Prop} {w : World} {A A2 : Option Addr} {c c2 : Nat} {x sl : List Int} {kw : Int} {cs : List Frame}
/-- An argument of which every free block is known. -/
def ArgB (F : Nat → Prop) (w : World) (A : Option Addr) : Prop := ∀ a, A = some a → F a.block ∧ IntsA w a
/-- .. or may be looked at, whatever lies beside it. -/
def ArgP (F : Nat → Prop) (w : World) (A : Option Addr) : Prop := ∀ a, A = some a → F a.block ∧ Plz w a
theorem ArgB.p (h : ArgB F w A) : ArgP F w A := fun a ha => ⟨(h a ha).1, (h a ha).2.plz⟩
theorem fnsQ_no {fs : FuncId → Bool} {y : Nat} (hy : y < w.heap.size) : (fnsQ fs w F No).wr y = false := by
  classical
  simp only [fnsQ, fnsOf, hy, if_true, decide_eq_false_iff_not]
  exact id
theorem rs_okV (hF : ∀ b, F b → b < w.heap.size) (hA : ArgP F w A) (n c : Nat) : okV (fnsQ rsFs w F No) w.heap.size (.slice A n c) = true := by
  cases A with
  | none => simp
  | some a =>
    rw [okV_sliceA _ _ _ _ (hA a rfl).2.2]
    exact fnsQ_ok hF (hA a rfl).1 (hA a rfl).2.1
theorem rs_args (hF : ∀ b, F b → b < w.heap.size) (hA : ArgP F w A) (hA2 : ArgP F w A2) (n n2 : Nat) : ∀ z ∈ (actRS A n c A2 n2 c2 kw).tmps, okV (fnsQ rsFs w F No) w.heap.size z = true := by
  intro z hz
  simp at hz
  rcases hz with rfl | rfl | rfl | rfl
  · exact rs_okV hF hA _ _
  · exact rs_okV hF hA2 _ _
  · simp
  · exact okV_undef _ _
theorem rs_rdl (hF : ∀ b, F b → b < w.heap.size) (hA : ArgP F w A) (hx : RdL (Value.int .i64) w A x) : RdL (Value.int .i64) (loneW (fnsQ rsFs w F No) w) A x :=
  rdl_look hx (fun _ => by simp) fun b o _ e => ⟨rfl, fnsQ_old (hF _ (hA _ e).1) (hA _ e).1 (hA _ e).2.1, fnsQ_no (hF _ (hA _ e).1)⟩
set_option maxRecDepth 100000 in
set_option maxHeartbeats 4000000 in
/-- To the call of sharedWork. -/
theorem rs_gl (hF : ∀ b, F b → b < w.heap.size) (hG : Try.prog.globals.size ≤ w.heap.size) (hx : RdL (Value.int .i64) w A x) (hs : RdL (Value.int .i64) w A2 sl) (hxn : x.length ≤ 1048576) (hsn : sl.length ≤ 1048576) (hA : ArgP F w A) (hA2 : ArgP F w A2) (hg : gateRS x sl kw = true) :
    GL Try.prog (fun t g w' => ∃ bk bs bo C cells v9 v10 v11 v12 v13 v14 v15 v16 v17 v18 v19 v20 v21 v22 v23 v24 v25 v26 v27 v28 v29 v30 v31 v32 v33 v34 v35, cells.size = sl.length ∧ bk ≠ C ∧ bs ≠ C ∧ bo ≠ C ∧
      g = G (Frame.enter Try.prog 81 #[.int .i64 sl.length, .int .i64 kw, .func (.func 82) #[] #[ptr bk, ptr bs, ptr bo]] .normal)
        ((base 24).at ⟨#[.slice A x.length c, .slice A2 sl.length c2, .int .i64 kw, ptr bk, ptr bs, undef, .slice none 0 0, .bool false, ptr bo, v9, v10, v11, v12, v13, v14, v15, v16, v17, v18, v19, v20, v21, v22, v23, v24, v25, v26, v27, v28, v29, v30, v31, v32, v33, v34, v35], []⟩ [.inRegion rs4 [4], .code rs5] :: cs) ∧
      LK [(bk, #[.slice A x.length c], 22), (bs, #[.slice A2 sl.length c2], 22), (bo, #[.slice (some ⟨C, 0, none⟩) sl.length sl.length], 29), (C, cells, 22)] F w t w') F
      (G (Frame.enter Try.prog 24 #[.slice A x.length c, .slice A2 sl.length c2, .int .i64 kw] .normal) cs) w := by
  rw [rs_enter]
  simp only [gateRS, Bool.and_eq_true, decide_eq_true_eq] at hg
  obtain ⟨⟨⟨h1, h2⟩, h3⟩, h4⟩ := hg
  have hcut := gl_cut (P := Try.prog) (fs := rsFs) (v := w) (F := F) (W := No) (cs := cs) (f := 24) (c := bodyRS) (n := 3) (a := actRS A x.length c A2 sl.length c2 kw) (Pre := PreRS A c x A2 c2 sl kw w.heap.size) (fun b h => h.elim) hF zero_ok hG rsFs_ok rs_spine3 rfl (rs_args hF hA hA2 _ _) (fun τ => by
    have := rows_reach A c x A2 c2 sl kw { loneW (fnsQ rsFs w F No) w with tape := τ, drawn := 0 } (rs_rdl hF hA hx) (rs_rdl hF hA2 hs) hxn hsn h1 h2 h3 h4
    have e : ({ loneW (fnsQ rsFs w F No) w with tape := τ, drawn := 0 } : World).heap.size = w.heap.size := loneW_size
    rw [e] at this
    exact this)
  refine Go1.bind (fun _ a => RS.refl a) hcut ?_
  rintro t g w' ⟨s, rfl, ρ, a', wl, rfl, ⟨bk, bs, bo, C, v9, v10, v11, v12, v13, v14, v15, v16, v17, v18, v19, v20, v21, v22, v23, v24, v25, v26, v27, v28, v29, rfl, l1, l2, l3, l4, n1, n2, n3, q1, q2, q3, cells, q4, q5⟩, hok, hL⟩
  have hnew : ∀ b, w.heap.size ≤ b → (fnsQ rsFs w F No).al b = true := fun b hb => (fnsOf_new hb).1
  have okA : ∀ {B : Option Addr}, ArgP F w B → B.map (renS ρ) = B := by
    intro B hB
    cases B with
    | none => rfl
    | some a =>
      have := hL.id a.block (hF _ (hB a rfl).1)
      rw [Option.map_some, renS_none _ (hB a rfl).2.2]
      simp only [renA, this]
  have ea := okA hA
  have ea2 := okA hA2
  have hK : LK [(ρ.f bk, #[.slice A x.length c], 22), (ρ.f bs, #[.slice A2 sl.length c2], 22), (ρ.f bo, #[.slice (some ⟨ρ.f C, 0, none⟩) sl.length sl.length], 29), (ρ.f C, cells.map (ren ρ), 22)] F w (fun b => (F b ∧ ¬ No b) ∨ s b) w' := by
    have lt : ∀ {b : Nat} {o : Obj}, wl.heap[b]? = some o → b < wl.heap.size := fun h => (Array.getElem?_eq_some_iff.1 h).1
    have p1 := (left_blk hL (hnew _ l1) q1).1
    have p2 := (left_blk hL (hnew _ l2) q2).1
    have p3 := (left_blk hL (hnew _ l3) q3).1
    have p4 := (left_blk hL (hnew _ l4) q4).1
    simp only [List.map_toArray, List.map_cons, List.map_nil, ren_slice, ea, ea2, Option.map_some, renS_lit, renA] at p1 p2 p3
    have m1 := left_new hL l1 (lt q1)
    have m2 := left_new hL l2 (lt q2)
    have m3 := left_new hL l3 (lt q3)
    have m4 := left_new hL l4 (lt q4)
    refine ⟨hL.size, fun p hp => ?_, fun b hb => .inl ⟨hb, id⟩, hF, fun b hb => ?_, fun b hb => ?_, fun b hb => hL.rd b ⟨hb, id⟩, hL.tape, hL.os, hL.output⟩
    · simp at hp
      rcases hp with rfl | rfl | rfl | rfl
      · exact ⟨.inr m1.1, m1.2, p1⟩
      · exact ⟨.inr m2.1, m2.2, p2⟩
      · exact ⟨.inr m3.1, m3.2, p3⟩
      · exact ⟨.inr m4.1, m4.2, p4⟩
    · rcases hb with hb | hb
      · exact Nat.lt_of_lt_of_le (hF b hb.1) hL.size
      · exact left_low hL hnew (fun b h => h.elim) hb
    · rcases hb with hb | hb
      · exact .inl hb.1
      · rcases (hL.mine b).1 hb with h | ⟨y, y1, _, rfl⟩
        · exact h.elim
        · exact .inr (hL.new y y1)
  have inj : ∀ {a b : Nat}, a ≠ b → ρ.f a ≠ ρ.f b := fun h e => h (ρ.inj _ _ e)
  have hsz : (cells.map (ren ρ)).size = sl.length := by simpa using q5
  have z1 := inj n1
  have z2 := inj n2
  have z3 := inj n3
  simp only [List.map_toArray, List.map_cons, List.map_nil, ren_pointer, ren_slice, ren_int, ren_bool, ren_undef, Option.map_some, Option.map_none, renS_lit, renA, ea, ea2]
  generalize cells.map (ren ρ) = cells at hK hsz
  generalize ρ.f bk = bk at hK z1 ⊢
  generalize ρ.f bs = bs at hK z2 ⊢
  generalize ρ.f bo = bo at hK z3 ⊢
  generalize ρ.f C = C at hK z1 z2 z3
  clear hok hL q1 q2 q3 q4 okA ea ea2 inj hcut hnew n1 n2 n3 l1 l2 l3 l4
  have hF0 := hF
  clear hF
  have hF := hK
  clear hK
  generalize (fun b => (F b ∧ ¬ No b) ∨ s b) = S at hF ⊢
  have rl : ∀ {own : List (Nat × Array Value × TypeId)} {a b : World}, LK own F w S a → RS No S a b → LK own F w S b := fun h r => h.rely r
  refine gl_go (n := 40) ?_
  simp only [bodyRS, Try.f24, cut]
  (u_in rl hF; rw [stepG_seq]; simp only [goes_go]; refine ⟨by (refine de1_none ?_; intro e he; simp at he), ?_⟩)
  (u_in rl hF; rw [stepG_region]; simp only [goes_go, List.size_toArray, List.length_cons, List.length_nil, Nat.reduceAdd, Nat.zero_add, List.range, List.range.loop]; refine ⟨by (refine de1_none ?_; intro e he; simp at he), ?_⟩)
  g_opw rl hF [(hF.cell (b := bs) (c := #[.slice A2 sl.length c2]) (t := 22) (by simp) 0).trans rfl] rfl (.inl ⟨_, rfl, .inl (hF.own (bs, #[.slice A2 sl.length c2], 22) (by simp)).1, rfl⟩)
  u_in rl hF
  refine goes_oper_k rfl rfl (by k_ne) (fun K hK => ?_)
  go_simp
  refine hK _ _ ⟨?_, ?_⟩
  · refine de1_none ?_
    intro e he
    have hm := mem_listed he
    simp [go_sem, *] at hm
  clear hK K
  try w_num
  u_in rl hF
  refine goes_oper_k rfl rfl (by k_ne) (fun K hK => ?_)
  go_simp
  refine hK _ _ ⟨?_, ?_⟩
  · refine de1_none ?_
    intro e he
    have hm := mem_listed he
    simp [go_sem, *] at hm
  clear hK K
  try w_num
  u_in rl hF
  refine goes_oper_k rfl rfl (by k_ne) (fun K hK => ?_)
  go_simp
  refine hK _ _ ⟨?_, ?_⟩
  · refine de1_none ?_
    intro e he
    have hm := mem_listed he
    simp [go_sem, *] at hm
  clear hK K
  try w_num
  u_in rl hF
  refine goes_call rfl rfl (by k_ne) rfl Try.func81 nm_shared rfl ⟨by (refine de1_none ?_; intro e he; simp at he), ?_⟩
  rw [← enter_at _ Try.func81 rfl]
  refine Goes.stop fun w₁ h₁ => Go1.stop fun w₂ h₂ => ?_
  exact ⟨bk, bs, bo, C, cells, ren ρ v9, ren ρ v10, ren ρ v11, ren ρ v12, ren ρ v13, ren ρ v14, ren ρ v15, ren ρ v16, ren ρ v17, ren ρ v18, ren ρ v19, ren ρ v20, ren ρ v21, ren ρ v22, ren ρ v23, ren ρ v24, ren ρ v25, ren ρ v26, ren ρ v27, ren ρ v28, ren ρ v29, .slice A2 sl.length c2, .int .i64 sl.length, .int .i64 kw, .func (.func 82) #[] #[ptr bk, ptr bs, ptr bo], undef, undef, hsz, z1, z2, z3, by kernel_rfl, rl (rl hF h₁) h₂⟩
end
end Go.Proofs.Ytmmolicodlmlkaa.Ph
namespace Go.Proofs.Ytmmolicodlmlkaa.Ph
open Go.Conc Go.ConcN Go.RowKit Go.Conc.Lib Go.ConcR.Gen Go.ConcN.Gen
open Go.ConcR (KK wgBlock WgAt stA smA rd wr mk DC0 Payload)
open Go.Proofs.Ytmmolicodlmlkaa.Rel
set_option linter.unusedVariables false
set_option linter.unusedSimpArgs false

section
variable {F : Nat → Prop} {w : World} {A A2 : Option Addr} {c c2 : Nat} {x sl : List Int} {kw : Int} {cs : List Frame} {b₀ : Frame} {a₀ : Act} {ops₀ : Array Oper} {i₀ : Nat} {rest₀ : List Nat} {k₀ : List Item}
/-- What it leaves where nothing that was free is written. -/
theorem lk_left {P : Program} {fs : FuncId → Bool} {s : Nat → Prop} {ρ : Rn} {wl w' : World} (hF : ∀ b, F b → b < w.heap.size) (hL : Rel.Left P (fnsQ fs w F No) w (fun b => F b ∧ ¬ No b) No ρ wl s w') : LK [] F w (fun b => (F b ∧ ¬ No b) ∨ s b) w' := by
  refine ⟨hL.size, by simp, fun b hb => .inl ⟨hb, id⟩, hF, fun b hb => ?_, fun b hb => ?_, fun b hb => hL.rd b ⟨hb, id⟩, hL.tape, hL.os, hL.output⟩
  · rcases hb with hb | hb
    · exact Nat.lt_of_lt_of_le (hF b hb.1) hL.size
    · exact left_low hL (fun b hb => (fnsQ_new hb).1) (fun b h => h.elim) hb
  · rcases hb with hb | hb
    · exact .inl hb.1
    · rcases (hL.mine b).1 hb with h | ⟨y, y1, _, rfl⟩
      · exact h.elim
      · exact .inr (hL.new y y1)
theorem rs_no (hF : ∀ b, F b → b < w.heap.size) (hG : Try.prog.globals.size ≤ w.heap.size) (hx : RdL (Value.int .i64) w A x) (hs : RdL (Value.int .i64) w A2 sl) (hxn : x.length ≤ 1048576) (hsn : sl.length ≤ 1048576) (hA : ArgP F w A) (hA2 : ArgP F w A2) (hg : gateRS x sl kw = false) :
    GL Try.prog (fun t g w' => g = G (b₀.at (a₀.put ((ops₀[i₀]?).bind (·.dst)) (.tuple #[.slice none 0 0, .bool false])) (.inRegion ops₀ rest₀ :: k₀)) cs ∧ LK [] F w t w') F
      (G (Frame.enter Try.prog 24 #[.slice A x.length c, .slice A2 sl.length c2, .int .i64 kw] .normal) (b₀.at a₀ (.inRegion ops₀ (i₀ :: rest₀) :: k₀) :: cs)) w := by
  rw [rs_enter]
  have h1 := gl_back (b₀ := b₀) (a₀ := a₀) (ops₀ := ops₀) (i₀ := i₀) (rest₀ := rest₀) (k₀ := k₀) (cs := cs) (fun b h => h.elim) (gl_ret (P := Try.prog) (fs := rsFs) (v := w) (F := F) (W := No) (f := 24) (c := bodyRS) (n := 2) (a := actRS A x.length c A2 sl.length c2 kw) (Q := fun u w' => u = .tuple #[.slice none 0 0, .bool false]) (fun b h => h.elim) hF zero_ok hG rsFs_ok
    Try.func24 rs_results rs_spine2 rfl (rs_args hF hA hA2 _ _) (fun τ => by
      have := rows_rets A c x A2 c2 sl kw { loneW (fnsQ rsFs w F No) w with tape := τ, drawn := 0 } (rs_rdl hF hA hx) (rs_rdl hF hA2 hs) hxn hsn hg
      unfold Rets at this ⊢
      exact Code.wp_mono (fun e a w' ⟨h1, h2, fn, v, h3, h4, h5, _⟩ => ⟨h1, h2, fn, v, h3, h4, h5⟩) this))
  refine Go1.widen h1 ?_
  rintro t g w' ⟨s, rfl, ρ, u, wl, rfl, rfl, hok, hL⟩
  refine ⟨by simp, lk_left hF hL⟩
set_option maxRecDepth 100000 in
set_option maxHeartbeats 4000000 in
/-- From behind sharedWork to the return. -/
theorem rs_last {bk bs bo C n : Nat} {v9 v10 v11 v12 v13 v14 v15 v16 v17 v18 v19 v20 v21 v22 v23 v24 v25 v26 v27 v28 v29 v30 v31 v32 v33 v34 v35 v0 v1 v2 : Value} (hF : ∀ b, F b → b < w.heap.size) (hb : F bo) (hc : w.cell? ⟨bo, 0, none⟩ = some (.slice (some ⟨C, 0, none⟩) n n)) :
    GL Try.prog (fun t g w' => g = G (b₀.at (a₀.put ((ops₀[i₀]?).bind (·.dst)) (.tuple #[.slice (some ⟨C, 0, none⟩) n n, .bool true])) (.inRegion ops₀ rest₀ :: k₀)) cs ∧ LK [] F w t w') F
      (G ((base 24).at (Act.put ⟨#[v0, v1, v2, ptr bk, ptr bs, undef, .slice none 0 0, .bool false, ptr bo, v9, v10, v11, v12, v13, v14, v15, v16, v17, v18, v19, v20, v21, v22, v23, v24, v25, v26, v27, v28, v29, v30, v31, v32, v33, v34, v35], []⟩ ((rs4[4]?).bind (·.dst)) (.tuple #[])) [.inRegion rs4 [], .code rs5]) (b₀.at a₀ (.inRegion ops₀ (i₀ :: rest₀) :: k₀) :: cs)) w := by
  have hF0 := hF
  clear hF
  have hF : LK [] F w F w := LK.refl hF0
  have rl : ∀ {own : List (Nat × Array Value × TypeId)} {S : Nat → Prop} {a b : World}, LK own F w S a → RS No S a b → LK own F w S b := fun h r => h.rely r
  refine gl_go (n := 40) ?_
  simp only [rs4, rs5, Try.f24]
  walk_nrm
  (u_in rl hF; rw [stepG_region_end]; simp only [goes_go]; refine ⟨by (refine de1_none ?_; intro e he; simp at he), ?_⟩)
  (u_in rl hF; rw [stepG_seq]; simp only [goes_go]; refine ⟨by (refine de1_none ?_; intro e he; simp at he), ?_⟩)
  (u_in rl hF; rw [stepG_region]; simp only [goes_go, List.size_toArray, List.length_cons, List.length_nil, Nat.reduceAdd, Nat.zero_add, List.range, List.range.loop]; refine ⟨by (refine de1_none ?_; intro e he; simp at he), ?_⟩)
  g_opw rl hF [(cell_stay (a := ⟨bo, 0, none⟩) (hF.old bo hb)).trans hc] rfl (.inl ⟨_, rfl, .inl hb, rfl⟩)
  u_in rl hF
  refine goes_oper_k rfl rfl (by k_ne) (fun K hK => ?_)
  go_simp
  refine hK _ _ ⟨?_, ?_⟩
  · refine de1_none ?_
    intro e he
    have hm := mem_listed he
    simp [go_sem, *] at hm
  clear hK K
  try w_num
  u_in rl hF
  refine goes_oper_k rfl rfl (by k_ne) (fun K hK => ?_)
  go_simp
  refine hK _ _ ⟨?_, ?_⟩
  · refine de1_none ?_
    intro e he
    have hm := mem_listed he
    simp [go_sem, *] at hm
  clear hK K
  try w_num
  (u_in rl hF; rw [stepG_region_end]; simp only [goes_go]; refine ⟨by (refine de1_none ?_; intro e he; simp at he), ?_⟩)
  (u_in rl hF; rw [stepG_ret']; simp only [goes_go]; refine ⟨by (refine de1_none ?_; intro e he; simp at he), ?_⟩)
  u_in rl hF
  refine goes_leave2 rfl rfl Try.func24 rfl ⟨by (refine de1_none ?_; intro e he; simp at he), ?_⟩
  refine Goes.stop fun w₁ h₁ => Go1.stop fun w₂ h₂ => ⟨by kernel_rfl, rl (rl hF h₁) h₂⟩
end
end Go.Proofs.Ytmmolicodlmlkaa.Ph
namespace Go.Proofs.Ytmmolicodlmlkaa.Ph
open Go.Conc Go.ConcN Go.RowKit Go.Conc.Lib Go.ConcR.Gen Go.ConcN.Gen
open Go.ConcR (KK wgBlock WgAt stA smA rd wr mk DC0 Payload)
open Go.Proofs.Ytmmolicodlmlkaa.Rel
set_option linter.unusedVariables false
set_option linter.unusedSimpArgs false

/-- What is free stays free, and stands. -/
structure Grow (Shun : Loc → Prop) (w : World) (Shun' : Loc → Prop) (w' : World) : Prop where
  tape : w'.tape = w.tape
  os : w'.os = w.os
  output : w'.output = w.output
  size : w.heap.size ≤ w'.heap.size
  old : ∀ y, FreeB Shun w y → FreeB Shun' w' y ∧ w'.heap[y]? = w.heap[y]?
theorem Grow.trans {a b c : World} {s t u : Loc → Prop} (h : Grow s a t b) (k : Grow t b u c) : Grow s a u c :=
  ⟨k.tape.trans h.tape, k.os.trans h.os, k.output.trans h.output, Nat.le_trans h.size k.size, fun y hy => ⟨(k.old y (h.old y hy).1).1, (k.old y (h.old y hy).1).2.trans (h.old y hy).2⟩⟩
/-- From what a walk leaves. -/
theorem LK.grow {own : List (Nat × Array Value × TypeId)} {Shun : Loc → Prop} {w w' : World} {S : Nat → Prop} (h : LK own (FreeB Shun w) w S w') (hf : ∀ b, S b → FreeB Shun w' b) : Grow Shun w Shun w' :=
  ⟨h.tape, h.os, h.output, h.size, fun y hy => ⟨hf y (h.sub y hy), h.old y hy⟩⟩
section
variable {Shun : Loc → Prop} {w w' : World} {Wg : Nat}
theorem free_low {b : Nat} (hs : ∀ l, Shun l → l.isMemory = true ∧ l.low w.heap.size) (hb : b < w'.heap.size) (hne : b ≠ Wg) (ho : b < w.heap.size → FreeB Shun w b) : FreeB (fun l => Shun l ∨ ShN Wg l) w' b := by
  refine ⟨hb, fun l hl hsl => ?_⟩
  rcases hsl with hsl | ⟨a, rfl, e⟩
  · have hlow := (hs l hsl).2
    cases l with
    | cell a =>
      have e : a.block = b := hl
      have hlow : a.block < w.heap.size := hlow
      exact (ho (by omega)).2 (.cell a) e hsl
    | obj r =>
      have e : r = b := hl
      have hlow : r < w.heap.size := hlow
      exact (ho (by omega)).2 (.obj r) e hsl
    | output => exact hl.elim
    | goroutines => exact hl.elim
    | mark m => exact hl.elim
  · have e2 : a.block = b := hl
    exact hne (e2.symm.trans e)
end
theorem rows_lo {lo lo' C : Nat} {x sl : List Int} {D S : Nat → Prop} {w : World} (h : RowsIn lo C x sl D S w) (hl : lo' ≤ lo) : RowsIn lo' C x sl D S w := by
  obtain ⟨R, cc, h1, h2⟩ := h
  refine ⟨R, cc, fun o ho => ⟨(h1 o ho).1, fun hne => ?_, (h1 o ho).2.2⟩, h2⟩
  obtain ⟨g, ex, e1, e2, e3⟩ := (h1 o ho).2.1 hne
  exact ⟨g, ex, e1, Nat.le_trans hl e2, e3⟩
theorem rows_join {lo C k n : Nat} {x sl : List Int} {Sg : Nat → Nat → Prop} {S : Nat → Prop} {w : World} (hk : 1 ≤ k) (h : ∀ j, j < k → RowsIn lo C x sl (fun o => o < n ∧ o % k = j) (Sg j) w) (hd : ∀ i j b, i < k → j < k → Sg i b → Sg j b → i = j) (hS : ∀ i b, i < k → Sg i b → S b) :
    RowsIn lo C x sl (fun o => o < n) S w := by
  have hm : ∀ o : Nat, o % k < k := fun o => Nat.mod_lt o (by omega)
  refine ⟨fun o => Classical.choose (h (o % k) (hm o)) o, fun o => Classical.choose (Classical.choose_spec (h (o % k) (hm o))) o, fun o ho => ?_, fun o o' a a' ho ho' ha ha' hb => ?_⟩
  · obtain ⟨q1, q2, q3⟩ := (Classical.choose_spec (Classical.choose_spec (h (o % k) (hm o)))).1 o ⟨ho, rfl⟩
    exact ⟨q1, q2, fun a ha => ⟨hS _ _ (hm o) (q3 a ha).1, (q3 a ha).2⟩⟩
  · have p1 := ((Classical.choose_spec (Classical.choose_spec (h (o % k) (hm o)))).1 o ⟨ho, rfl⟩).2.2 a ha
    have p2 := ((Classical.choose_spec (Classical.choose_spec (h (o' % k) (hm o')))).1 o' ⟨ho', rfl⟩).2.2 a' ha'
    have e := hd _ _ _ (hm o) (hm o') p1.1 (hb ▸ p2.1)
    have key : ∀ j (hj : j < k), j = o % k → o' % k = j → Classical.choose (h (o' % k) (hm o')) o' = Classical.choose (h j hj) o' := by
      intro j hj _ e2
      subst e2
      rfl
    have ha2 := (key _ (hm o) rfl e.symm).symm.trans ha'
    exact (Classical.choose_spec (Classical.choose_spec (h (o % k) (hm o)))).2 o o' a a' ⟨ho, rfl⟩ ⟨ho', e.symm⟩ ha ha2 hb
/-- What impl.RowsShared returns. -/
def RowsRes (Shun' : Loc → Prop) (w0 w' : World) (x sl : List Int) (kw : Int) (v : Value) : Prop :=
  (gateRS x sl kw = false ∧ v = .tuple #[.slice none 0 0, .bool false]) ∨
  (gateRS x sl kw = true ∧ ∃ C cells, v = .tuple #[.slice (some ⟨C, 0, none⟩) sl.length sl.length, .bool true] ∧ w0.heap.size ≤ C ∧ FreeB Shun' w' C ∧ w'.heap[C]? = some (.cells cells 22 (0, 0)) ∧ cells.size = sl.length ∧
    RowsIn w0.heap.size C x sl (fun o => o < sl.length) (fun b => w0.heap.size ≤ b ∧ b ≠ C ∧ FreeB Shun' w' b) w')
section
variable {Shun : Loc → Prop} {w : World} {m : Machine} {t : Trace} {A A2 : Option Addr} {c c2 : Nat} {x sl : List Int} {kw : Int} {cs : List Frame} {b₀ : Frame} {a₀ : Act} {ops₀ : Array Oper} {i₀ : Nat} {rest₀ : List Nat} {k₀ : List Item}
theorem argp_stay {F F' : Nat → Prop} {w' : World} (h : ArgP F w A) (hF : ∀ y, F y → F' y ∧ w'.heap[y]? = w.heap[y]?) : ArgP F' w' A := fun a ha => ⟨(hF _ (h a ha).1).1, (h a ha).2.stay (hF _ (h a ha).1).2⟩
theorem argb_stay {F F' : Nat → Prop} {w' : World} (h : ArgB F w A) (hF : ∀ y, F y → F' y ∧ w'.heap[y]? = w.heap[y]?) : ArgB F' w' A := fun a ha => ⟨(hF _ (h a ha).1).1, (h a ha).2.stay (hF _ (h a ha).1).2⟩
/-- ████ impl.RowsShared, CALLED AND COME BACK. ████ -/
theorem rows_machine (h : At Try.prog Shun (G (Frame.enter Try.prog 24 #[.slice A x.length c, .slice A2 sl.length c2, .int .i64 kw] .normal) (b₀.at a₀ (.inRegion ops₀ (i₀ :: rest₀) :: k₀) :: cs)) w m t)
    (hG : Try.prog.globals.size ≤ w.heap.size) (hx : RdL (Value.int .i64) w A x) (hs : RdL (Value.int .i64) w A2 sl) (hxn : x.length ≤ 1048576) (hsn : sl.length ≤ 1048576) (hA : ArgP (FreeB Shun w) w A) (hA2 : ArgP (FreeB Shun w) w A2) :
    ∃ K m' t' w' Shun' v, runNT Try.prog K m t = (.next m', t') ∧ At Try.prog Shun' (G (b₀.at (a₀.put ((ops₀[i₀]?).bind (·.dst)) v) (.inRegion ops₀ rest₀ :: k₀)) cs) w' m' t' ∧ Grow Shun w Shun' w' ∧ RowsRes Shun' w w' x sl kw v := by
  cases hg : gateRS x sl kw with
  | false =>
    obtain ⟨K, m', t', g', w', S', r1, hAt, ⟨rfl, hK⟩, hfree, _⟩ := h.walk (fun S g w d ⟨e, hF⟩ => ⟨e, hF.at⟩) (rs_no (fun b hb => hb.1) hG hx hs hxn hsn hA hA2 hg)
    exact ⟨K, m', t', w', Shun, _, r1, hAt, hK.grow hfree, .inl ⟨hg, rfl⟩⟩
  | true =>
    have hg0 := hg
    simp only [gateRS, Bool.and_eq_true, decide_eq_true_eq] at hg0
    obtain ⟨⟨⟨g1, g2⟩, g3⟩, g4⟩ := hg0
    obtain ⟨g5, g6⟩ := keysQ_iff g1
    have g7 : ∀ y ∈ sl, 0 ≤ y ∧ y ≤ 4294967295 := by
      intro y hy
      unfold allB at g3
      have := List.all_eq_true.1 g3 y hy
      simpa [Go.Proofs.Ytmmolicodlmlkaa.inB] using this
    have g8 : 1 ≤ kw ∧ kw ≤ 8 := by simpa [Go.Proofs.Ytmmolicodlmlkaa.inB] using g4
    obtain ⟨k, rfl⟩ := Int.eq_ofNat_of_zero_le (show 0 ≤ kw by omega)
    obtain ⟨K1, m1, t1, gg, w1, S1, r1, hAt1, ⟨bk, bs, bo, C, cells, v9, v10, v11, v12, v13, v14, v15, v16, v17, v18, v19, v20, v21, v22, v23, v24, v25, v26, v27, v28, v29, v30, v31, v32, v33, v34, v35, hsz, z1, z2, z3, rfl, hK⟩, hfree, _⟩ :=
      h.walk (fun S g w d ⟨bk, bs, bo, C, cells, v9, v10, v11, v12, v13, v14, v15, v16, v17, v18, v19, v20, v21, v22, v23, v24, v25, v26, v27, v28, v29, v30, v31, v32, v33, v34, v35, h1, h2, h3, h4, h5, h6⟩ =>
        ⟨bk, bs, bo, C, cells, v9, v10, v11, v12, v13, v14, v15, v16, v17, v18, v19, v20, v21, v22, v23, v24, v25, v26, v27, v28, v29, v30, v31, v32, v33, v34, v35, h1, h2, h3, h4, h5, h6.at⟩) (rs_gl (fun b hb => hb.1) hG hx hs hxn hsn hA hA2 hg)
    obtain ⟨ok1, ok2, ok3⟩ := hK.own (bk, #[.slice A x.length c], 22) (by simp)
    obtain ⟨os1, os2, os3⟩ := hK.own (bs, #[.slice A2 sl.length c2], 22) (by simp)
    obtain ⟨oo1, oo2, oo3⟩ := hK.own (bo, #[.slice (some ⟨C, 0, none⟩) sl.length sl.length], 29) (by simp)
    obtain ⟨oc1, oc2, oc3⟩ := hK.own (C, cells, 22) (by simp)
    simp only at ok1 ok2 ok3 os1 os2 os3 oo1 oo2 oo3 oc1 oc2 oc3
    have hgrow1 := hK.grow hfree
    have neC : ∀ y, FreeB Shun w y → y ≠ C := fun y hy e => by have := hy.1; omega
    have I : RowIn Shun w1 A c x A2 c2 sl C bk bs bo :=
      { glob := Nat.le_trans hG hK.size, x256 := g5, s32 := g2, xb := g6, sb := g7,
        rx := rdl_stay hx fun a ha => hK.old _ (hA a ha).1, rs := rdl_stay hs fun a ha => hK.old _ (hA2 a ha).1,
        bA := fun a ha => ⟨(hgrow1.old _ (hA a ha).1).1, neC _ (hA a ha).1, (hA a ha).2.stay (hK.old _ (hA a ha).1)⟩,
        bA2 := fun a ha => ⟨(hgrow1.old _ (hA2 a ha).1).1, neC _ (hA2 a ha).1, (hA2 a ha).2.stay (hK.old _ (hA2 a ha).1)⟩,
        hk := ⟨hfree _ ok1, z1, _, ok3⟩, hs := ⟨hfree _ os1, z2, _, os3⟩, ho := ⟨hfree _ oo1, z3, _, oo3⟩, hC := ⟨_, _, oc3, hsz⟩ }
    have hs1 := hAt1.shun
    obtain ⟨K2, m2, t2, w2, Wg, Sg, r2, hAt2, hWg, hU, hsz2, hfact, hSg, hdis⟩ := shared_machine hAt1 (hfree _ oc1) (mine := fun j o => o % k = j) (J := fun j i S w => JR Shun C w1 x sl k j i S w) (Fact := fun j S w => FactR w1.heap.size C x sl k j S w) (fun i k o h1 h2 => h1.symm.trans h2) (fun i S w' hF => hF.1)
      (fun Wg b1 b2 b3 hWg => row_task I (by omega) hWg b1 b2 b3)
    have free2 : ∀ b, b < w2.heap.size → b ≠ Wg → (b < w1.heap.size → FreeB Shun w1 b) → FreeB (fun l => Shun l ∨ ShN Wg l) w2 b := fun b h1 h2 h3 => free_low hs1 h1 h2 h3
    have free12 : ∀ y, FreeB Shun w1 y → FreeB (fun l => Shun l ∨ ShN Wg l) w2 y := fun y hy => free2 y (by have := hy.1; omega) (by have := hy.1; omega) fun _ => hy
    have hbo := hfree _ oo1
    have hbo2 : w2.cell? ⟨bo, 0, none⟩ = some (.slice (some ⟨C, 0, none⟩) sl.length sl.length) := cell0 ((hU.2.1 bo hbo z3).trans oo3)
    obtain ⟨K3, m3, t3, gg, w3, S3, r3, hAt3, ⟨rfl, hK3⟩, hfree3, _⟩ := hAt2.walk (fun S g w d ⟨e, hF⟩ => ⟨e, hF.at⟩) (rs_last (fun b hb => hb.1) (free12 bo hbo) hbo2)
    have hgrow3 := hK3.grow hfree3
    have hgrow : Grow Shun w (fun l => Shun l ∨ ShN Wg l) w3 := by
      refine ⟨hgrow3.tape.trans (hU.1.1.trans hK.tape), hgrow3.os.trans (hU.1.2.1.trans hK.os), hgrow3.output.trans (hU.1.2.2.trans hK.output), by have := hK.size; have := hgrow3.size; omega, fun y hy => ?_⟩
      have h1 := hgrow1.old y hy
      have h3 := hgrow3.old y (free12 y h1.1)
      exact ⟨h3.1, h3.2.trans ((hU.2.1 y h1.1 (neC y hy)).trans h1.2)⟩
    have hCf := free12 C (hfree _ oc1)
    obtain ⟨cells', hC1, hC2, _⟩ := hU.2.2 _ _ _ oc3
    refine ⟨K1 + (K2 + K3), m3, t3, w3, _, _, run_trans r1 (run_trans r2 r3), hAt3, hgrow, .inr ⟨hg, C, cells', rfl, oc2, (hgrow3.old C hCf).1, (hgrow3.old C hCf).2.trans hC1, hC2.trans hsz, ?_⟩⟩
    have hR2 : RowsIn w1.heap.size C x sl (fun o => o < sl.length) (fun b => w1.heap.size ≤ b ∧ b ≠ C ∧ FreeB (fun l => Shun l ∨ ShN Wg l) w2 b) w2 :=
      rows_join (k := k) (by omega) (fun j hj => (hfact j hj).2) hdis fun i b hi hb => by
        obtain ⟨q1, q2, q3, q4⟩ := hSg i b hi hb
        exact ⟨q1, q4, free2 b q2 q3 fun h => by omega⟩
    refine rows_lo (RowsIn.stay (mine := fun _ => True) hR2 (fun b hb => (hgrow3.old b hb.2.2).2) (.of_block (hgrow3.old C hCf).2) (fun _ _ => trivial) fun b hb => ⟨by have := hK.size; have := hb.1; omega, hb.2.1, (hgrow3.old b hb.2.2).1⟩) hK.size
end
end Go.Proofs.Ytmmolicodlmlkaa.Ph
namespace Go.Proofs.Ytmmolicodlmlkaa
open Go.RowKit
open Go.Proofs.Ytmmolicodlmlkaa.Rel (Ints)
set_option linter.unusedVariables false
set_option linter.unusedSimpArgs false

/-- The slice whose address is A reads, in w, as these rows. -/
def RdLL (w : World) (A : Option Addr) (xss : List (List Int)) : Prop :=
  ∀ o (h : o < xss.length), ∃ C k R cc, A = some ⟨C, k, none⟩ ∧ w.cell? ⟨C, k + o, none⟩ = some (.slice R xss[o].length cc) ∧ RdL (Value.int .i64) w R xss[o]
theorem RdLL.below {w w' : World} {A : Option Addr} {xss : List (List Int)} (h : RdLL w A xss) (hb : Below w.heap.size w w') : RdLL w' A xss := fun o ho => by
  obtain ⟨C, k, R, cc, e1, e2, e3⟩ := h o ho
  exact ⟨C, k, R, cc, e1, (hb.cell (p := ⟨C, k + o, none⟩) (World.block_lt_of_cell? w _ e2)).trans e2, e3.below hb⟩
end Go.Proofs.Ytmmolicodlmlkaa
