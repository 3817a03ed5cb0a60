/-
  Parts of the proof: Facts of slices: from company into the lone world, and back. Rows of slices of numbers: compared, marked, looked at for their marks: by contracts. The laws' helpers over slices of slices of integers: size, copy: by contracts. An own row of numbers takes a number: all its cells, the spare ones too, stay numbers. A row of RowsShared, alone: all but its store. A row of RowsShared, alone: the run up to its store. A piece of a region, walked alone up to an operation, made in company by a worker; one block is named alone. The work of RowsShared, as sharedWork asks for it: rows that stand, what is re No condition.
-/
import Derived.Test.YtmmolicodlmlkaaVC
import Derived.Test.YtmmolicodlmlkaaVG
import Derived.Deep.OwnRows
import Derived.Test.YtmmolicodlmlkaaVI
import Derived.Test.YtmmolicodlmlkaaVF
set_option linter.unusedVariables false
set_option linter.unusedSimpArgs false
namespace Go.Proofs.Ytmmolicodlmlkaa.Rel
open Go.Conc (G base)
open Go.Proofs.Ytmmolicodlmlkaa (RdL OwnS Blk)
set_option linter.unusedVariables false

theorem okV_undef (Fs : Fns) (B : Nat) : okV Fs B undef = true := by unfold undef; rw [okV_tuple]; simp
section
variable {P : Program} {Fs : Fns} {v w wl : World} {Rd S0 S : Nat → Prop} {ρ : Rn} {α : Type} {f : α → Value} {A : Option Addr} {xs : List α} {t : TypeId}
/-- New blocks may be named and written. -/
theorem fnsOf_new {fs : FuncId → Bool} {al wr : Nat → Prop} {b : Nat} (h : v.heap.size ≤ b) : (fnsOf fs v al wr).al b = true ∧ (fnsOf fs v al wr).wr b = true := by
  have : ¬ b < v.heap.size := by omega
  simp [fnsOf, this]
theorem fnsOf_old {fs : FuncId → Bool} {al wr : Nat → Prop} {b : Nat} (h : b < v.heap.size) (ha : al b) (hp : plainO v.heap[b]? = true) : (fnsOf fs v al wr).al b = true := by
  simp only [fnsOf, h, if_true, ha, decide_true, hp, Bool.and_self]
/-- A slice that the lone call has made, in company. -/
theorem Left.own (h : Left P Fs v Rd S0 ρ wl S w) (hnew : ∀ b, v.heap.size ≤ b → Fs.al b = true) (hf : ∀ x, ren ρ (f x) = f x) (ho : OwnS f wl v.heap.size t A xs) :
    OwnS f w v.heap.size t (A.map (renS ρ)) xs ∧ ∀ b o, xs ≠ [] → A.map (renS ρ) = some ⟨b, o, none⟩ → S b := by
  by_cases hx : xs = []
  · exact ⟨fun h => absurd hx h, fun b o h => absurd hx h⟩
  obtain ⟨g, ex, rfl, hg, hb⟩ := ho hx
  have hlt : g < wl.heap.size := hb.lt
  have hbr := h.wr.blk g hlt (hnew g hg)
  obtain ⟨ol, oc, h1, h2, h3⟩ := hbr
  have hb' : wl.heap[g]? = some (.cells (xs.map f ++ ex).toArray t (0, 0)) := hb
  rw [hb'] at h1
  have h1 := Option.some.inj h1
  subst h1
  have hne : (xs.map f ++ ex).toArray ≠ #[] := by
    intro e
    have := congrArg Array.toList e
    simp at this
    exact hx this.1
  refine ⟨fun _ => ⟨ρ.f g, ex.map (ren ρ), rfl, h.new g hg, ?_⟩, fun b o _ e => ?_⟩
  · show w.heap[ρ.f g]? = _
    rw [show w.heap[ρ.f g]? = some oc from h2]
    generalize hc : (xs.map f ++ ex).toArray = c at h3 hne
    generalize ho : Obj.cells c t (0, 0) = o at h3
    have hm : (xs.map f ++ ex.map (ren ρ)).toArray = c.map (ren ρ) := by
      rw [← hc]
      simp only [List.map_toArray, List.map_append, List.map_map]
      congr 2
      exact List.map_congr_left fun x _ => (hf x).symm
    cases h3 with
    | cells hw hcc => injection ho with e1 e2; subst e1; subst e2; rw [hm]
    | ro hcc _ => injection ho with e1 e2 e3; subst e1; exfalso; injection e3 with _ e4; exact hne (Array.eq_empty_of_size_eq_zero e4.symm)
    | bad => injection ho with e1; exact absurd e1 hne
    | dull hd => cases oc <;> simp [stand] at ho hd
    | number => cases ho
  · injection e with e
    injection e with e1
    exact (h.mine b).2 (.inr ⟨g, hg, hlt, e1⟩)
/-- A block that may be read as it stands. -/
def Clean (Fs : Fns) (v : World) (b : Nat) : Prop := ∃ c e, v.heap[b]? = some (.cells c e (0, 0)) ∧ ∀ x ∈ c, okV Fs v.heap.size x = true
theorem Clean.cell {a : Addr} (h : Clean Fs v a.block) (hn : Fs.na a.block = false) (ha : Fs.al a.block = true) : (loneW Fs v).cell? a = v.cell? a :=
  let ⟨_, _, h1, h2⟩ := h
  loneW_cell h1 hn ha h2
theorem rdl_lone (h : RdL f v A xs) (hc : ∀ b o, xs ≠ [] → A = some ⟨b, o, none⟩ → Fs.na b = false ∧ Fs.al b = true ∧ Clean Fs v b) : RdL f (loneW Fs v) A xs := by
  intro j hj
  obtain ⟨b, o, hA, hcell⟩ := h j hj
  obtain ⟨h0, h1, h2⟩ := hc b o (by intro e; subst e; simp at hj) hA
  exact ⟨b, o, hA, (Clean.cell (a := ⟨b, o + j, none⟩) h2 h0 h1).trans hcell⟩
/-- .. whatever else lies beside it. -/
theorem rdl_look (h : RdL f v A xs) (hf : ∀ x, okV Fs v.heap.size (f x) = true) (hc : ∀ b o, xs ≠ [] → A = some ⟨b, o, none⟩ → Fs.na b = false ∧ Fs.al b = true ∧ Fs.wr b = false) : RdL f (loneW Fs v) A xs := by
  intro j hj
  obtain ⟨b, o, hA, hcell⟩ := h j hj
  obtain ⟨h0, h1, h2⟩ := hc b o (by intro e; subst e; simp at hj) hA
  exact ⟨b, o, hA, loneW_at (a := ⟨b, o + j, none⟩) hcell h0 h1 h2 (hf _)⟩
/-- Numbers alone. -/
def Ints (v : World) (b : Nat) : Prop := ∃ c e, v.heap[b]? = some (.cells c e (0, 0)) ∧ ∀ x ∈ c, ∃ i, x = .int .i64 i
theorem Ints.clean {b : Nat} (h : Ints v b) : Clean Fs v b :=
  let ⟨c, e, h1, h2⟩ := h
  ⟨c, e, h1, fun x hx => by obtain ⟨i, rfl⟩ := h2 x hx; simp⟩
theorem Ints.plain {b : Nat} (h : Ints v b) : plainO v.heap[b]? = true := by
  obtain ⟨c, e, h1, _⟩ := h
  rw [h1]; rfl
@[simp] theorem renS_lit (ρ : Rn) (b o : Nat) : renS ρ ⟨b, o, none⟩ = ⟨ρ.f b, o, none⟩ := rfl
/-- .. at a place of its own. -/
def IntsA (v : World) (a : Addr) : Prop := Ints v a.block ∧ a.spot = none
/-- A block that may be looked at, at a place of its own. -/
def Plz (v : World) (a : Addr) : Prop := plainO v.heap[a.block]? = true ∧ a.spot = none
theorem Ints.stay {b : Nat} (h : Ints v b) (hs : w.heap[b]? = v.heap[b]?) : Ints w b :=
  let ⟨c, e, h1, h2⟩ := h
  ⟨c, e, hs.trans h1, h2⟩
theorem IntsA.stay {a : Addr} (h : IntsA v a) (hs : w.heap[a.block]? = v.heap[a.block]?) : IntsA w a := ⟨h.1.stay hs, h.2⟩
theorem IntsA.plz {a : Addr} (h : IntsA v a) : Plz v a := ⟨h.1.plain, h.2⟩
theorem IntsA.plain {a : Addr} (h : IntsA v a) : plainO v.heap[a.block]? = true := h.1.plain
theorem Plz.stay {a : Addr} (h : Plz v a) (hs : w.heap[a.block]? = v.heap[a.block]?) : Plz w a := ⟨by rw [hs]; exact h.1, h.2⟩
end
end Go.Proofs.Ytmmolicodlmlkaa.Rel
namespace Go.Proofs.Ytmmolicodlmlkaa
open Go.RowKit
open Go.Proofs.Ytmmolicodlmlkaa.Rel (Ints)
set_option linter.unusedVariables false
set_option linter.unusedSimpArgs false

/-- The slice whose address is A reads, in w, as these rows. -/
def RdLL (w : World) (A : Option Addr) (xss : List (List Int)) : Prop :=
  ∀ o (h : o < xss.length), ∃ C k R cc, A = some ⟨C, k, none⟩ ∧ w.cell? ⟨C, k + o, none⟩ = some (.slice R xss[o].length cc) ∧ RdL (Value.int .i64) w R xss[o]
theorem RdLL.below {w w' : World} {A : Option Addr} {xss : List (List Int)} (h : RdLL w A xss) (hb : Below w.heap.size w w') : RdLL w' A xss := fun o ho => by
  obtain ⟨C, k, R, cc, e1, e2, e3⟩ := h o ho
  exact ⟨C, k, R, cc, e1, (hb.cell (p := ⟨C, k + o, none⟩) (World.block_lt_of_cell? w _ e2)).trans e2, e3.below hb⟩
theorem cell_grown {w w' : World} {a : Addr} {v : Value} (h : w.cell? a = some v) (hb : Below w.heap.size w w') : w'.cell? a = some v := (hb.cell (World.block_lt_of_cell? w a h)).trans h
set_option maxRecDepth 100000 in
set_option maxHeartbeats 1600000 in
theorem eqInt64SS_yes (A A' : Option Addr) (c c' : Nat) (xss : List (List Int)) (w : World) (hx : RdLL w A xss) (hy : RdLL w A' xss) (hn : xss.length ≤ 1048576) (hl : ∀ e ∈ xss, e.length ≤ 1048576) :
    Calls Try.prog 20 #[.slice A xss.length c, .slice A' xss.length c'] w fun e w' => e = .returned (.bool true) ∧ Below w.heap.size w w' := by
  have HX := hid hx
  have HY := hid hy
  have HL := hid hl
  clear hx hl hy
  go_enter Try.func20, Try.ntmps20
  go_wp2
  go_loopw [5] (fun j wr => ∃ i : Nat, i ≤ xss.length ∧ j = .int .i64 i ∧ Hid (Below w.heap.size w wr)) (fun j _ => xss.length - (intOf j).toNat)
  case atStart => exact ⟨0, Nat.zero_le _, rfl, Below.refl _ _⟩
  case round =>
    obtain ⟨i, hi, rfl, hW⟩ := hrel
    by_cases hlt : i < xss.length
    · have hil : (i : Int) < (xss.length : Int) := by omega
      have hi0 : (0 : Int) ≤ (i : Int) := by omega
      have hel := HL.out xss[i] (List.getElem_mem hlt)
      obtain ⟨g, o1, R, cc, rfl, a0, hrd⟩ := (HX.out.below hW.out) i hlt
      obtain ⟨g', o2, R', cc', rfl, b0, hrd'⟩ := (HY.out.below hW.out) i hlt
      generalize xss[i] = x at a0 b0 hrd hrd' hel
      have R1 := hid hrd
      have R2 := hid hrd'
      have hS := And.intro a0 b0
      clear hrd hrd' a0 b0
      have hS0 := hS
      obtain ⟨a0, b0⟩ := hS
      go_wp2
      have hS := hS0
      clear hS0
      go_region_held3 (fun w' => w'.cell? ⟨g, o1 + i, none⟩ = some (.slice R x.length cc) ∧ w'.cell? ⟨g', o2 + i, none⟩ = some (.slice R' x.length cc'))
        (first | go_keep | exact hS)
        (first
          | (go_at_call 15
             refine (eqInt64S_any R R' cc cc' x x _ (R1.out.drewN 1) (R2.out.drewN 1) hel).mono ?_
             rintro en w2 ⟨rfl, n2, hb0⟩
             simp only [decide_true]
             have hb := below_of_draw hb0
             clear hb0
             have hb := below_drew' hb
             have W2 := hid (hW.out.trans (hb.mono hW.out.size))
             have hS := And.intro (cell_grown hS.1 hb) (cell_grown hS.2 hb)
             clear hb))
      go_wp2
      exact ⟨⟨i + 1, by omega, by go_num, W2⟩, by simp [intOf]; omega⟩
    · have hil : ¬ (i : Int) < (xss.length : Int) := by omega
      go_wp2
      go_ret
      exact ⟨rfl, hW.out⟩
/-- The marks of rows, one behind the other. -/
def marksLL (q : Int) : List (List Int) → List (List Int)
  | [] => []
  | x :: xss => marks markI q x.length :: marksLL (q + x.length) xss
def sumLL : List (List Int) → Nat
  | [] => 0
  | x :: xss => x.length + sumLL xss
theorem marksLL_length (q : Int) (xss : List (List Int)) : (marksLL q xss).length = xss.length := by
  induction xss generalizing q with
  | nil => rfl
  | cons x xss ih => simp [marksLL, ih]
theorem marksLL_at (q : Int) (xss : List (List Int)) (i : Nat) (h : i < xss.length) : (marksLL q xss)[i]? = some (marks markI (q + sumLL (xss.take i)) xss[i].length) := by
  induction xss generalizing q i with
  | nil => simp at h
  | cons x xss ih =>
    cases i with
    | zero => simp [marksLL, sumLL]
    | succ i =>
      simp only [marksLL, List.getElem?_cons_succ, List.take_succ_cons, sumLL, List.getElem_cons_succ]
      rw [ih _ _ (by simpa using h)]
      congr 2
      omega
theorem sumLL_take (xss : List (List Int)) (i : Nat) (h : i < xss.length) : sumLL (xss.take (i + 1)) = sumLL (xss.take i) + xss[i].length := by
  induction xss generalizing i with
  | nil => simp at h
  | cons x xss ih =>
    cases i with
    | zero => simp [sumLL]
    | succ i =>
      simp only [List.take_succ_cons, sumLL, List.getElem_cons_succ]
      rw [ih i (by simpa using h)]
      omega
theorem sumLL_mono (xss : List (List Int)) (i : Nat) : sumLL (xss.take i) ≤ sumLL xss := by
  induction xss generalizing i with
  | nil => simp [sumLL]
  | cons x xss ih =>
    cases i with
    | zero => simp [sumLL]
    | succ i => simp only [List.take_succ_cons, sumLL]; have := ih i; omega
set_option maxRecDepth 100000 in
set_option maxHeartbeats 1600000 in
theorem heldInt64SS_yes (A : Option Addr) (c : Nat) (xss : List (List Int)) (q : Int) (w : World) (hx : RdLL w A (marksLL q xss)) (hn : xss.length ≤ 1048576) (hl : ∀ e ∈ xss, e.length ≤ 1048576) (hq0 : 0 ≤ q) (hq1 : q + sumLL xss ≤ 1000000000) :
    Calls Try.prog 22 #[.slice A xss.length c, .int .i64 q] w fun e w' => e = .returned (.int .i64 (q + sumLL xss)) ∧ w = w' := by
  have HX := hid hx
  have HL := hid hl
  clear hx hl
  go_enter Try.func22, Try.ntmps22
  go_wp2
  go_loop [1, 5] (fun t j => ∃ i : Nat, i ≤ xss.length ∧ j = .int .i64 i ∧ t = .int .i64 (q + sumLL (xss.take i))) (fun _ j => xss.length - (intOf j).toNat)
  case atStart => exact ⟨0, Nat.zero_le _, rfl, by simp [sumLL]⟩
  case round =>
    obtain ⟨i, hi, rfl, rfl⟩ := hrel
    by_cases hlt : i < xss.length
    · have hil : (i : Int) < (xss.length : Int) := by omega
      have hi0 : (0 : Int) ≤ (i : Int) := by omega
      have hel := HL.out xss[i] (List.getElem_mem hlt)
      have hoff := sumLL_take xss i hlt
      have hmono := sumLL_mono xss (i + 1)
      have hme := marksLL_at q xss i hlt
      obtain ⟨r, hr⟩ : ∃ r, r = q + (sumLL (xss.take i) : Int) := ⟨_, rfl⟩
      have hr0 : 0 ≤ r := by omega
      have hr1 : r + (xss[i].length : Int) ≤ 1000000000 := by omega
      have hend : Hid (q + (sumLL (xss.take (i + 1)) : Int) = r + (xss[i].length : Int)) := by show _ = _; omega
      obtain ⟨g, o1, R, cc, rfl, C0, hrd⟩ := HX.out i (by rw [marksLL_length]; exact hlt)
      have hge : (marksLL q xss)[i]'(by rw [marksLL_length]; exact hlt) = marks markI r xss[i].length := by
        rw [← hr] at hme
        rw [List.getElem?_eq_getElem (by rw [marksLL_length]; exact hlt)] at hme
        exact Option.some.inj hme
      rw [hge] at C0 hrd
      rw [marks_length] at C0
      rw [← hr]
      generalize xss[i].length = n at C0 hrd hel hr1 hend
      have HRD := hid hrd
      have hp : ¬ r + (n : Int) < 0 := by omega
      clear hrd hme hoff hmono hge hr
      go_wp2_with (go_at_call 17; refine (heldInt64S_yes R n cc r _ HRD.out hel (by omega) (by omega)).mono ?_; rintro en w3 ⟨rfl, rfl⟩)
      exact ⟨⟨i + 1, by omega, by go_num, by rw [hend.out]⟩, by simp [intOf]; omega⟩
    · have hil : ¬ (i : Int) < (xss.length : Int) := by omega
      obtain rfl : i = xss.length := by omega
      rw [List.take_length] at *
      go_wp2
      go_ret
      exact ⟨rfl, rfl⟩
theorem ints_set {w : World} {g : Nat} (h : Ints w g) (k : Nat) (i : Int) : Ints (w.setCell ⟨g, k, none⟩ (.int .i64 i)) g := by
  obtain ⟨c, e, h1, h2⟩ := h
  refine ⟨c.setIfInBounds k (.int .i64 i), e, heap_setCell_same w g k c e _ h1, fun x hx => ?_⟩
  rcases Array.mem_or_eq_of_mem_setIfInBounds hx with h | h
  · exact h2 x h
  · exact ⟨i, h⟩
set_option maxHeartbeats 400000 in
theorem markInt64S_ints (A : Option Addr) (c B : Nat) (xs : List Int) (q : Int) (w : World) (hx : OwnS (Value.int .i64) w B 2 A xs) (hn : xs.length ≤ 1048576) (hq0 : 0 ≤ q) (hq1 : q ≤ 1073741824) (hz : ∀ a, A = some a → Ints w a.block) :
    Calls Try.prog 16 #[.slice A xs.length c, .int .i64 q] w fun e w' => e = .returned (.int .i64 (q + xs.length)) ∧
      OwnS (Value.int .i64) w' B 2 A (marks markI q xs.length) ∧ Touch w w' A xs.length ∧ (∀ a, A = some a → Ints w' a.block) := by
  have H0 : Hid (OwnS (Value.int .i64) w B 2 A (fillUp 0 (marks markI q xs.length) xs)) := by rw [fillUp_zero]; exact hx
  have Z0 : Hid (∀ a, A = some a → Ints w a.block) := hz
  clear hx hz
  go_enter Try.func16, Try.ntmps16
  go_wp2
  go_loopw [1, 5] (fun u i wr => ∃ k : Nat, k ≤ xs.length ∧ i = .int .i64 k ∧ u = .int .i64 (q + k) ∧ Hid (OwnS (Value.int .i64) wr B 2 A (fillUp k (marks markI q xs.length) xs)) ∧ Hid (Touch w wr A xs.length) ∧ Hid (∀ a, A = some a → Ints wr a.block))
    (fun _ i _ => xs.length - (intOf i).toNat)
  case atStart => exact ⟨0, Nat.zero_le _, rfl, by go_num, H0, Touch.refl, Z0⟩
  case round =>
    clear H0 Z0
    obtain ⟨k, hk, rfl, rfl, hO, hT, hZ⟩ := hrel
    by_cases hlt : k < xs.length
    · have hi : (k : Int) < (xs.length : Int) := by omega
      obtain ⟨g, u, rfl, hBg, hc, hf, hu, hput⟩ := hO.out.put (j := k) (by rw [fillUp_length (by rw [marks_length]; omega) (by omega)]; exact hlt)
      have hO1 := hput (markI (q + k))
      rw [fillUp_step (marks_at _ _ hlt) hlt] at hO1
      have hT1 : Hid (Touch w (wr.setCell ⟨g, k, none⟩ ((Value.int .i64) (markI (q + k)))) (some ⟨g, 0, none⟩) xs.length) := hT.out.set_ (by omega) _ _
      have hZ1 : Hid (∀ a, (some ⟨g, 0, none⟩ : Option Addr) = some a → Ints (wr.setCell ⟨g, k, none⟩ ((Value.int .i64) (markI (q + k)))) a.block) := fun a ha => by
        obtain rfl := Option.some.inj ha
        exact ints_set (hZ.out _ rfl) _ _
      clear hput hO hT hu hZ
      go_wp2
      exact ⟨⟨k + 1, by omega, by go_num, by go_num, hO1, hT1, hZ1⟩, by simp [intOf]; omega⟩
    · have hi : ¬ (k : Int) < (xs.length : Int) := by omega
      go_wp2
      go_ret
      obtain rfl : k = xs.length := by omega
      have hO1 := hO.out
      rw [fillUp_all (marks_length _ _ _) rfl] at hO1
      exact ⟨rfl, hO1, hT.out, hZ.out⟩
/-- Rows in blocks of their own, of which the first i are those of the second list. -/
structure MkLL (w0 : World) (C : Nat) (R : Nat → Option Addr) (cc : Nat → Nat) (n : Nat) (yss : List (List Int)) (w : World) : Prop where
  cell : ∀ o, o < n → ∃ y, yss[o]? = some y ∧ w.cell? ⟨C, o, none⟩ = some (.slice (R o) y.length (cc o)) ∧ OwnS (Value.int .i64) w 0 2 (R o) y
  ints : ∀ o a, o < n → R o = some a → Ints w a.block
  far : ∀ b, (∀ o a, o < n → R o = some a → a.block ≠ b) → w.heap[b]? = w0.heap[b]?
  size : w.heap.size = w0.heap.size
theorem marksLL_step (q : Int) (xss : List (List Int)) (i : Nat) (h : i < xss.length) : ((marksLL q xss).take i ++ xss.drop i).set i (marks markI (q + sumLL (xss.take i)) xss[i].length) = (marksLL q xss).take (i + 1) ++ xss.drop (i + 1) := by
  have hm := marksLL_at q xss i h
  have hl := marksLL_length q xss
  have h2 : i < (marksLL q xss).length := by omega
  rw [List.set_append_right _ _ (by simp [hl]; omega), List.length_take, hl, Nat.min_eq_left (by omega), Nat.sub_self, List.drop_eq_getElem_cons h, List.set_cons_zero, List.take_add_one, hm]
  simp
set_option maxRecDepth 100000 in
set_option maxHeartbeats 1600000 in
theorem markInt64SS_any (C : Nat) (c : Nat) (R : Nat → Option Addr) (cc : Nat → Nat) (xss : List (List Int)) (q : Int) (w : World) (hx : MkLL w C R cc xss.length xss w) (hd : ∀ o o' a a', o < xss.length → o' < xss.length → R o = some a → R o' = some a' → a.block = a'.block → o = o') (hC : ∀ o a, o < xss.length → R o = some a → a.block ≠ C)
    (hn : xss.length ≤ 1048576) (hl : ∀ e ∈ xss, e.length ≤ 1048576) (hq0 : 0 ≤ q) (hq1 : q + sumLL xss ≤ 1000000000) :
    Calls Try.prog 21 #[.slice (some ⟨C, 0, none⟩) xss.length c, .int .i64 q] w fun e w' => e = .returned (.int .i64 (q + sumLL xss)) ∧ MkLL w C R cc xss.length (marksLL q xss) w' := by
  have HL := hid hl
  have HD := hid hd
  have HC := hid hC
  have H0 : Hid (MkLL w C R cc xss.length ((marksLL q xss).take 0 ++ xss.drop 0) w) := by show MkLL _ _ _ _ _ _ _; simpa using hx
  clear hx hl hd hC
  go_enter Try.func21, Try.ntmps21
  go_wp2
  go_loopw [1, 5] (fun t j wr => ∃ i : Nat, i ≤ xss.length ∧ j = .int .i64 i ∧ t = .int .i64 (q + sumLL (xss.take i)) ∧ Hid (MkLL w C R cc xss.length ((marksLL q xss).take i ++ xss.drop i) wr)) (fun _ j _ => xss.length - (intOf j).toNat)
  case atStart => exact ⟨0, Nat.zero_le _, rfl, by simp [sumLL], H0⟩
  case round =>
    obtain ⟨i, hi, rfl, rfl, hM⟩ := hrel
    by_cases hlt : i < xss.length
    · have hil : (i : Int) < (xss.length : Int) := by omega
      have hi0 : (0 : Int) ≤ (i : Int) := by omega
      have hel := HL.out xss[i] (List.getElem_mem hlt)
      have hoff := sumLL_take xss i hlt
      have hmono := sumLL_mono xss (i + 1)
      have hstep := hid (marksLL_step q xss i hlt)
      obtain ⟨r, hr⟩ : ∃ r, r = q + (sumLL (xss.take i) : Int) := ⟨_, rfl⟩
      have hr0 : 0 ≤ r := by omega
      have hr1 : r + (xss[i].length : Int) ≤ 1000000000 := by omega
      have hend : Hid (q + (sumLL (xss.take (i + 1)) : Int) = r + (xss[i].length : Int)) := by show _ = _; omega
      obtain ⟨y, hy, C0, hown⟩ := hM.out.cell i hlt
      have hyi : y = xss[i] := by
        have hlen : ((marksLL q xss).take i).length = i := by rw [List.length_take, marksLL_length]; omega
        rw [List.getElem?_append_right (by rw [hlen]; exact Nat.le_refl _), hlen, Nat.sub_self, List.getElem?_drop, Nat.add_zero, List.getElem?_eq_getElem hlt] at hy
        exact (Option.some.inj hy).symm
      rw [← hr] at hstep ⊢
      rw [← hyi] at hel hr1 hend hstep
      have O1 := hid hown
      have HY := hid hyi
      clear hoff hmono hr hyi hown hy
      go_wp2_with (go_at_call 16; refine (markInt64S_ints (R i) (cc i) 0 y r _ O1.out hel (by omega) (by omega) (fun a ha => hM.out.ints i a hlt ha)).mono ?_; rintro en w3 ⟨rfl, ho, ht, hz⟩)
      have O2 := hid ho
      have T2 := hid ht
      have Z2 := hid hz
      clear ho ht hz
      have hM2 : Hid (MkLL w C R cc xss.length ((marksLL q xss).take (i + 1) ++ xss.drop (i + 1)) w3) := by
        have hset := hstep.out
        have hg : ∀ b, (∀ o', R i ≠ some ⟨b, o', none⟩) → w3.heap[b]? = wr.heap[b]? := fun b hb => T2.out.block b (.inr hb)
        have hCs : w3.heap[C]? = wr.heap[C]? := hg C fun o' e => HC.out i _ hlt e rfl
        have hcs : ∀ o, w3.cell? ⟨C, o, none⟩ = wr.cell? ⟨C, o, none⟩ := fun o => by unfold World.cell?; rw [hCs]
        show MkLL _ _ _ _ _ _ _
        refine ⟨fun o ho => ?_, fun o a ho ha => ?_, fun b hb => (hg b fun o' e => hb i _ hlt e rfl).trans (hM.out.far b hb), T2.out.size.trans hM.out.size⟩
        · rw [← hset]
          by_cases he : o = i
          · subst he
            refine ⟨marks markI r y.length, ?_, ?_, O2.out⟩
            · rw [List.getElem?_set_self (by simp [marksLL_length]; omega)]
            · rw [marks_length, hcs]; exact C0
          · obtain ⟨z, z1, z2, z3⟩ := hM.out.cell o ho
            refine ⟨z, by rw [List.getElem?_set_ne (fun e => he e.symm)]; exact z1, by rw [hcs]; exact z2, fun hne => ?_⟩
            obtain ⟨g, ex, e1, e2, e3⟩ := z3 hne
            exact ⟨g, ex, e1, e2, (hg g fun o' e => he (HD.out o i _ _ ho hlt e1 e rfl)).trans e3⟩
        · by_cases he : o = i
          · subst he
            exact Z2.out a ha
          · exact (hM.out.ints o a ho ha).stay (hg _ fun o' e => he (HD.out o i _ _ ho hlt ha e rfl))
      exact ⟨⟨i + 1, by omega, by go_num, by rw [hend.out], hM2⟩, by simp [intOf]; omega⟩
    · have hil : ¬ (i : Int) < (xss.length : Int) := by omega
      obtain rfl : i = xss.length := by omega
      rw [List.take_length] at *
      go_wp2
      go_ret
      have := hM.out
      rw [List.take_of_length_le (by rw [marksLL_length]; exact Nat.le_refl _), List.drop_length, List.append_nil] at this
      exact ⟨rfl, this⟩
end Go.Proofs.Ytmmolicodlmlkaa
namespace Go.Proofs.Ytmmolicodlmlkaa
open Go.RowKit
open Go.Proofs.Ytmmolicodlmlkaa.Rel (Ints)
set_option linter.unusedVariables false
set_option linter.unusedSimpArgs false

/-- A copy of rows, of which k are laid. -/
structure ToLL (C : Nat) (xss : List (List Int)) (k : Nat) (R : Nat → Nat) (w : World) : Prop where
  out : Blk w C 22 (((List.range k).map fun o => Value.slice (some ⟨R o, 0, none⟩) (xss.getD o []).length (xss.getD o []).length) ++ List.replicate (xss.length - k) (Value.slice none 0 0))
  row : ∀ o, o < k → C < R o ∧ Blk w (R o) 2 ((xss.getD o []).map (Value.int .i64))
  inj : ∀ o o', o < k → o' < k → R o = R o' → o = o'
theorem ToLL.step {C g k : Nat} {xss : List (List Int)} {R : Nat → Nat} {w w1 : World} (h : ToLL C xss k R w) (hk : k < xss.length) (hb : Below w.heap.size w w1) (hg : w.heap.size ≤ g) (hB : Blk w1 g 2 (xss[k].map (Value.int .i64))) :
    ToLL C xss (k + 1) (fun o => if o = k then g else R o) (w1.setCell ⟨C, k, none⟩ (.slice (some ⟨g, 0, none⟩) xss[k].length xss[k].length)) := by
  have hC := h.out.lt
  have hd : xss.getD k [] = xss[k] := by simp [List.getD, hk]
  have hold : ∀ b, b < w.heap.size → b ≠ C → (w1.setCell ⟨C, k, none⟩ (.slice (some ⟨g, 0, none⟩) xss[k].length xss[k].length)).heap[b]? = w.heap[b]? := fun b h1 h2 => (heap_setCell_other w1 ⟨C, k, none⟩ b _ h2).trans (hb.block b h1)
  refine ⟨?_, fun o ho => ?_, fun o o' ho ho' e => ?_⟩
  · have h1 : Blk w1 C 22 _ := (hb.block C hC).trans h.out
    have h2 := h1.set_ k (.slice (some ⟨g, 0, none⟩) xss[k].length xss[k].length)
    rw [List.set_append_right _ _ (by simp)] at h2
    simp only [List.length_map, List.length_range, Nat.sub_self] at h2
    rw [show xss.length - k = (xss.length - (k + 1)) + 1 by omega, List.replicate_succ, List.set_cons_zero] at h2
    rw [List.range_succ, List.map_append, List.map_cons, List.map_nil, List.append_assoc, List.singleton_append, if_pos rfl, hd]
    have e : ((List.range k).map fun o => Value.slice (some ⟨if o = k then g else R o, 0, none⟩) (xss.getD o []).length (xss.getD o []).length) = (List.range k).map fun o => Value.slice (some ⟨R o, 0, none⟩) (xss.getD o []).length (xss.getD o []).length := List.map_congr_left fun o ho => by
      have : o ≠ k := by have := List.mem_range.1 ho; omega
      simp [this]
    rw [e]
    exact h2
  · by_cases he : o = k
    · subst he
      simp only [if_true]
      refine ⟨by omega, ?_⟩
      rw [hd]
      exact (heap_setCell_other w1 ⟨C, o, none⟩ g _ (show g ≠ C by omega)).trans hB
    · simp only [he, if_false]
      obtain ⟨q1, q2⟩ := h.row o (by omega)
      exact ⟨q1, (hold _ q2.lt (by omega)).trans q2⟩
  · have hlt : ∀ o, o < k → R o < g := fun o ho => Nat.lt_of_lt_of_le (h.row o ho).2.lt hg
    by_cases h1 : o = k
    · by_cases h2 : o' = k
      · omega
      · have := hlt o' (by omega)
        simp only [h1, h2, if_true, if_false] at e
        omega
    · by_cases h2 : o' = k
      · have := hlt o (by omega)
        simp only [h1, h2, if_true, if_false] at e
        omega
      · simp only [h1, h2, if_false] at e
        exact h.inj o o' (by omega) (by omega) e
set_option maxRecDepth 100000 in
set_option maxHeartbeats 1600000 in
theorem toInt64SS_any (A : Option Addr) (c : Nat) (xss : List (List Int)) (w : World) (hx : RdLL w A xss) (hn : xss.length ≤ 1048576) (hl : ∀ e ∈ xss, e.length ≤ 1048576) :
    Calls Try.prog 27 #[.slice A xss.length c] w fun e w' => ∃ C R, e = .returned (.slice (some ⟨C, 0, none⟩) xss.length xss.length) ∧ w.heap.size ≤ C ∧ ToLL C xss xss.length R w' ∧ Below w.heap.size w w' := by
  have hmk := run_make_row' (P := Try.prog) 29 22 (.slice none 0 0) 24 Try.underlying29 (by kernel_rfl) rfl .i64 .i64 xss.length (by omega) (by omega)
  have HX := hid hx
  have HL := hid hl
  clear hx hl
  go_enter Try.func27, Try.ntmps27
  go_wp2
  have O0 : Hid (ToLL w.heap.size xss 0 (fun _ => 0) (w.alloc (.cells (madeCells #[.slice none 0 0] xss.length) 22))) := by
    refine ⟨?_, fun o ho => by omega, fun o o' ho => by omega⟩
    have := Blk.new w 22 (List.replicate xss.length (Value.slice none 0 0))
    have e : madeCells #[Value.slice none 0 0] xss.length = (List.replicate xss.length (Value.slice none 0 0)).toArray := by rw [madeCells_one]
    rw [e]
    simpa using this
  have W0 : Hid (Below w.heap.size w (w.alloc (.cells (madeCells #[.slice none 0 0] xss.length) 22))) := below_a1 _ _
  clear hmk
  go_loopw [4] (fun j wr => ∃ i : Nat, i ≤ xss.length ∧ j = .int .i64 i ∧ ∃ R, Hid (ToLL w.heap.size xss i R wr) ∧ Hid (Below w.heap.size w wr)) (fun j _ => xss.length - (intOf j).toNat)
  case atStart => exact ⟨0, Nat.zero_le _, rfl, _, O0, W0⟩
  case round =>
    clear O0 W0
    obtain ⟨i, hi, rfl, R, hO, hW⟩ := hrel
    by_cases hlt : i < xss.length
    · have hil : (i : Int) < (xss.length : Int) := by omega
      have hi0 : (0 : Int) ≤ (i : Int) := by omega
      have hel := HL.out xss[i] (List.getElem_mem hlt)
      obtain ⟨g, o1, r, cc, rfl, a0, hrd⟩ := (HX.out.below hW.out) i hlt
      have HS := hid (fun (g : Nat) (w1 : World) (h1 : Below wr.heap.size wr w1) (h2 : wr.heap.size ≤ g) (h3 : Blk w1 g 2 (xss[i].map (Value.int .i64))) => hO.out.step hlt h1 h2 h3)
      have HC := hid hO.out.out
      generalize xss[i] = x at a0 hrd hel HS
      have R1 := hid hrd
      clear hrd
      go_wp2_with fail
      refine (toInt64S_any r cc x _ R1.out hel).mono ?_
      rintro en w2 ⟨g2, rfl, hg2, hb2, hb⟩
      have O2 := hid (HS.out g2 w2 hb hg2 hb2)
      have W2 : Hid (Below w.heap.size w (w2.setCell ⟨w.heap.size, i, none⟩ (.slice (some ⟨g2, 0, none⟩) x.length x.length))) := (hW.out.trans (hb.mono hW.out.size)).setCell (Nat.le_refl _) _
      have HC2 : Blk w2 w.heap.size 22 _ := (hb.block _ HC.out.lt).trans HC.out
      have hfz := HC2.frozen i
      have hcc : w2.cell? ⟨w.heap.size, i, none⟩ = some (.slice none 0 0) := HC2.cell (by rw [List.getElem?_append_right (by simp), List.getElem?_replicate, if_pos (by simp; omega)])
      clear hb hb2 hg2 HC2 HS
      go_wp2
      exact ⟨⟨i + 1, by omega, by go_num, _, O2, W2⟩, by simp [intOf]; omega⟩
    · have hil : ¬ (i : Int) < (xss.length : Int) := by omega
      obtain rfl : i = xss.length := by omega
      go_wp2
      go_ret
      exact ⟨w.heap.size, rfl, Nat.le_refl _, ⟨R, hO.out⟩, hW.out⟩
set_option maxRecDepth 100000 in
set_option maxHeartbeats 1600000 in
theorem szInt64SS_any (A : Option Addr) (c : Nat) (xss : List (List Int)) (w : World) (hx : RdLL w A xss) (hn : xss.length ≤ 9223372036854775807) (hl : ∀ e ∈ xss, e.length ≤ 9223372036854775807) :
    Calls Try.prog 25 #[.slice A xss.length c, .int .i64 1048576] w fun e w' => e = .returned (.int .i64 (if (xss.length : Int) + sumLL xss ≤ 1048576 then 1048576 - (xss.length : Int) - sumLL xss else -1)) ∧ Below w.heap.size w w' := by
  have HX := hid hx
  have HL := hid hl
  clear hx hl
  obtain ⟨R, hR⟩ : ∃ R, R = (if (xss.length : Int) + sumLL xss ≤ 1048576 then 1048576 - (xss.length : Int) - sumLL xss else -1) := ⟨_, rfl⟩
  rw [← hR]
  have HR := hid hR
  clear hR
  by_cases hn2 : (xss.length : Int) ≤ 1048576
  · have hlt0 : ¬ 1048576 - (xss.length : Int) < 0 := by omega
    have hwr0 : IntKind.i64.wrap (1048576 - (xss.length : Int)) = 1048576 - (xss.length : Int) := by rw [IntKind.wrap_i64]; omega
    go_enter Try.func25, Try.ntmps25
    go_wp2
    go_loopw [1, 5] (fun t j wr => ∃ i : Nat, i ≤ xss.length ∧ j = .int .i64 i ∧ t = .int .i64 (1048576 - (xss.length : Int) - sumLL (xss.take i)) ∧ Hid (0 ≤ 1048576 - (xss.length : Int) - sumLL (xss.take i)) ∧ Hid (Below w.heap.size w wr)) (fun _ j _ => xss.length - (intOf j).toNat)
    case atStart => exact ⟨0, Nat.zero_le _, rfl, by simp [sumLL], by show 0 ≤ 1048576 - (xss.length : Int) - sumLL (xss.take 0); simp only [sumLL, List.take_zero]; omega, Below.refl _ _⟩
    case round =>
      obtain ⟨i, hi, rfl, rfl, hh, hW⟩ := hrel
      by_cases hlt : i < xss.length
      · have hil : (i : Int) < (xss.length : Int) := by omega
        have hi0 : (0 : Int) ≤ (i : Int) := by omega
        have hel := HL.out xss[i] (List.getElem_mem hlt)
        have hoff := sumLL_take xss i hlt
        have hm1 := sumLL_mono xss (i + 1)
        obtain ⟨g, o1, ra, cc, rfl, a0, hrd⟩ := (HX.out.below hW.out) i hlt
        obtain ⟨r, hr⟩ : ∃ r, r = 1048576 - (xss.length : Int) - (sumLL (xss.take i) : Int) := ⟨_, rfl⟩
        have hr0 : 0 ≤ r := by have := hh.out; omega
        have hr1 : r ≤ 1048576 := by omega
        have hend : Hid (1048576 - (xss.length : Int) - (sumLL (xss.take (i + 1)) : Int) = r - (xss[i].length : Int)) := by show _ = _; omega
        have hfin : Hid (sumLL (xss.take (i + 1)) ≤ sumLL xss ∧ r = 1048576 - (xss.length : Int) - (sumLL (xss.take i) : Int) ∧ sumLL (xss.take (i + 1)) = sumLL (xss.take i) + xss[i].length) := ⟨hm1, hr, hoff⟩
        rw [← hr]
        clear hr hoff hm1 hh hrd
        generalize xss[i] = x at a0 hel hend hfin
        by_cases hfit : (x.length : Int) ≤ r
        · have hp : ¬ r - (x.length : Int) < 0 := by omega
          go_wp2_with (go_at_call 84; refine (szInt64S_yes ra x.length cc r _ hr0 hr1 hfit).mono ?_; rintro en w2 ⟨rfl, rfl⟩)
          exact ⟨⟨i + 1, by omega, by go_num, by rw [hend.out], by show 0 ≤ _; rw [hend.out]; omega, hW.out⟩, by simp [intOf]; omega⟩
        · go_wp2_with (go_at_call 84; refine (szInt64S_no ra x.length cc r _ hr0 hr1 hel (by omega)).mono ?_; rintro en w2 ⟨rfl, rfl⟩)
          go_ret
          exact ⟨ret_int (by rw [HR.out, if_neg (by have := hfin.out; omega)]), hW.out⟩
      · have hil : ¬ (i : Int) < (xss.length : Int) := by omega
        obtain rfl : i = xss.length := by omega
        rw [List.take_length] at *
        go_wp2
        go_ret
        exact ⟨ret_int (by rw [HR.out, if_pos (by have := hh.out; omega)]), hW.out⟩
  · have hlt0 : 1048576 - (xss.length : Int) < 0 := by omega
    have hwr0 : IntKind.i64.wrap (1048576 - (xss.length : Int)) = 1048576 - (xss.length : Int) := by rw [IntKind.wrap_i64]; omega
    go_enter Try.func25, Try.ntmps25
    go_wp2
    go_ret
    exact ⟨ret_int (by rw [HR.out, if_neg (by omega)]), Below.refl _ _⟩
end Go.Proofs.Ytmmolicodlmlkaa
namespace Go.Proofs.Ytmmolicodlmlkaa
open Go.RowKit
open Go.Proofs.Ytmmolicodlmlkaa.Rel (Ints)
set_option linter.unusedVariables false

/-- The block of an own slice holds numbers alone. -/
def IntsV (w : World) (v : Value) : Prop := ∀ g, v.ownBlock = some g → Ints w g
theorem IntsV.made {w : World} {e : TypeId} : IntsV (w.alloc (.cells #[] e)) (.slice (some ⟨w.heap.size, 0, none⟩) 0 0) := fun g hg => by
  obtain rfl : w.heap.size = g := by injection hg
  exact ⟨#[], e, heap_alloc_new w _, by simp⟩
theorem IntsV.alloc {w : World} {v : Value} (h : IntsV w v) (o : Obj) : IntsV (w.alloc o) v := fun g hg => by
  obtain ⟨c, e, h1, h2⟩ := h g hg
  exact ⟨c, e, (heap_alloc_old w o (Array.getElem?_eq_some_iff.1 h1).1).trans h1, h2⟩
theorem zero_ints {n : Nat} : ∀ x ∈ Builtin.zeroCells #[Value.int .i64 0] n, ∃ i, x = .int .i64 i := by
  intro x hx
  simp [Builtin.zeroCells, Nat.mod_one] at hx
  obtain ⟨_, _, rfl⟩ := hx
  exact ⟨0, rfl⟩
theorem run_append_ints {P : Program} (w : World) (base : Nat) (t ty e : TypeId) (i : TypeInfo) (ht : P.underlying t = some (.slice e)) (hi : P.info? e = some i) (hz : i.zero = some (.int .i64 0)) (hsize : i.size = 1) (hby : i.bytes = 8)
    (v : Value) (n : Nat) (xs : List Value) (hown : w.ownsRow base e 1 v n xs) (hv : IntsV w v) (a : Addr) (c : Nat) (h : Int) (hc : w.cell? a = some (.int .i64 h)) (h63 : n + 1 ≤ maxLen) (hbytes : (n + 1) * 8 ≤ 140737488355328) (hbase : base ≤ w.heap.size) :
    ∃ v' w', (Builtin.append_ #[t, t] ty #[v, .slice (some a) 1 c]).run P w = .ok v' w' ∧ w'.ownsRow base e 1 v' (n + 1) (xs ++ [.int .i64 h]) ∧ w.grownBy w' v.ownBlock ∧ IntsV w' v' := by
  have hnews : ∀ j u, [Value.int .i64 h][j]? = some u → w.cell? (a.add j) = some u := by
    intro j u hu
    cases j with
    | zero =>
      simp at hu
      subst hu
      rw [show a.add 0 = a from by unfold Addr.add; cases a; simp]
      exact hc
    | succ j => simp at hu
  obtain ⟨v', w', hr, h2, h3, h4⟩ := run_append_own (P := P) w base t ty e i (.int .i64 0) 1 8 ht hi hz hsize hby rfl (by decide) v n xs hown a 1 c [.int .i64 h] rfl hnews (by intro u hu; simp at hu; subst hu; rfl) h63 hbytes hbase
  refine ⟨v', w', hr, h2, h3, fun g' hg' => ?_⟩
  have hz1 : (Value.int IntKind.i64 0).cells = #[Value.int .i64 0] := rfl
  have hx0 : ∀ x ∈ xs, ∃ k, x = Value.int .i64 k := by
    intro x hx
    rcases hown.2 with ⟨rfl, rfl⟩ | ⟨g, cap, cur, rfl, hbg, hg, hnc, hcm, hcs, htake⟩
    · have : xs = [] := List.eq_nil_of_length_eq_zero (by simpa using hown.1)
      subst this
      simp at hx
    · obtain ⟨c0, e0, q1, q2⟩ := hv g rfl
      rw [hg] at q1
      injection q1 with q1
      injection q1 with q1
      subst q1
      exact q2 x (by rw [← htake] at hx; simpa using List.mem_of_mem_take hx)
  have grown : ∀ k, ∀ x ∈ xs.toArray ++ [Value.int .i64 h].toArray ++ Builtin.zeroCells #[Value.int .i64 0] k, ∃ i, x = .int .i64 i := by
    intro k x hx
    rcases Array.mem_append.1 hx with hx | hx
    · rcases Array.mem_append.1 hx with hx | hx
      · exact hx0 x (by simpa using hx)
      · simp at hx; exact ⟨_, hx⟩
    · exact zero_ints x hx
  have hm : (n + 1 : Nat) ≤ 9223372036854775807 := by simp only [maxLen] at h63; omega
  rcases hown.2 with ⟨rfl, rfl⟩ | ⟨g, cap, cur, rfl, hbg, hg, hnc, hcm, hcs, htake⟩
  · have hx : xs = [] := List.eq_nil_of_length_eq_zero (by simpa using hown.1)
    subst hx
    have hr2 := run_append_nil (P := P) w t ty e i (.int .i64 0) ht hi hz a 1 c [.int .i64 h] (by rw [hsize]; rfl) hnews (by omega) (by omega) (by rw [hby]; omega)
    rw [hr] at hr2
    injection hr2 with e1 e2
    subst e1; subst e2
    obtain rfl : w.heap.size = g' := by injection hg'
    exact ⟨_, e, heap_alloc_new w.drew _, by
      have := grown (grownCap w 1 0 e - 1)
      rw [hz1]
      simpa using this⟩
  · by_cases hroom : n + 1 ≤ cap
    · have hr2 := run_append_room (P := P) w t ty e i ht hi g n cap cur hg a 1 c [.int .i64 h] (by rw [hsize]; rfl) hnews (by intro u hu; simp at hu; subst hu; rfl) hroom (by rw [hsize]; simp; omega)
      rw [hr] at hr2
      injection hr2 with e1 e2
      subst e1; subst e2
      obtain rfl : g = g' := by injection hg'
      refine ⟨_, e, setRow_heap w g cur _ e _ hg, fun x hx => ?_⟩
      obtain ⟨c0, e0, q1, q2⟩ := hv g rfl
      rw [hg] at q1
      injection q1 with q1
      injection q1 with q1
      subst q1
      simp only [List.append_assoc, List.mem_toArray, List.mem_append, List.mem_cons, List.not_mem_nil, or_false] at hx
      rcases hx with hx | hx | hx
      · exact q2 x (by simpa using List.mem_of_mem_take hx)
      · exact ⟨_, hx⟩
      · exact q2 x (by simpa using List.mem_of_mem_drop hx)
    · have holds : ∀ j u, xs[j]? = some u → w.cell? ((⟨g, 0, none⟩ : Addr).add j) = some u := hown.cells (g := g) rfl
      have hr2 := run_append_grow (P := P) w t ty e i (.int .i64 0) ht hi hz ⟨g, 0, none⟩ n cap xs (by rw [hsize]; exact hown.1) holds a 1 c [.int .i64 h] (by rw [hsize]; rfl) hnews (by omega) (by omega) (growslice_fits (by omega) (by rw [hby]; exact hbytes))
      rw [hr] at hr2
      injection hr2 with e1 e2
      subst e1; subst e2
      obtain rfl : w.heap.size = g' := by injection hg'
      exact ⟨_, e, heap_alloc_new w.drew _, grown _⟩
/-- .. in the walk. -/
theorem wpList_append_ints {P : Program} {w : World} {ops : Array Oper} {rest : List Oper} {o : Oper} {a : Act} {Q : Exit → Act → World → Prop} (hgd : o.guard = none) (s x : Operand) (t : TypeId)
    (ho : o.op = .call { callee := .builtin .append, args := #[s, x], argTypes := #[t, t] }) (base : Nat) (e : TypeId) (i : TypeInfo) (ht : P.underlying t = some (.slice e)) (hi : P.info? e = some i) (hz : i.zero = some (.int .i64 0)) (hsize : i.size = 1) (hby : i.bytes = 8)
    (v : Value) (n : Nat) (xs : List Value) (hs : a.eval s = v) (hown : w.ownsRow base e 1 v n xs) (hv : IntsV w v) (ad : Addr) (c : Nat) (h : Int) (hx : a.eval x = .slice (some ad) 1 c) (hc : w.cell? ad = some (.int .i64 h)) (h63 : n + 1 ≤ maxLen) (hbytes : (n + 1) * 8 ≤ 140737488355328) (hbase : base ≤ w.heap.size)
    (hk : ∀ v' w', w'.ownsRow base e 1 v' (n + 1) (xs ++ [.int .i64 h]) → w.grownBy w' v.ownBlock → IntsV w' v' → wpList P ops Q rest (a.put o.dst v') w') : wpList P ops Q (o :: rest) a w := by
  refine wpList_plain hgd fun _ hK => ?_
  obtain ⟨v', w', hr, h2, h3, h4⟩ := run_append_ints (P := P) w base t o.type e i ht hi hz hsize hby v n xs hown hv ad c h hc h63 hbytes hbase
  unfold Oper.wp execOp
  simp only [ho, resolve, invoke, builtin, Sem.run_bind, Sem.run_pure, Result.andThen_ok, List.map_toArray, List.map_cons, List.map_nil, hs, hx, hr]
  exact hK _ _ (hk v' w' h2 h3 h4)
end Go.Proofs.Ytmmolicodlmlkaa
namespace Go.Proofs.Ytmmolicodlmlkaa
open Go.RowKit
open Go.Proofs.Ytmmolicodlmlkaa.Rel (Ints IntsA ops_upto lastOk lastOk_sound linearise_same)
set_option linter.unusedVariables false
set_option linter.unusedSimpArgs false

/-- A list that is returned in a block of the call's own, which holds just it. -/
def RetLN {α : Type} (f : α → Value) (t : TypeId) (w : World) (xs : List α) (e : Ending) (w' : World) : Prop :=
  ∃ A c, e = .returned (.slice A xs.length c) ∧ OwnS f w' w.heap.size t A xs ∧ (∀ a, A = some a → w.heap.size ≤ a.block ∧ IntsA w' a) ∧ Below w.heap.size w w'
theorem ownS_of_rowN {α : Type} {f : α → Value} {w : World} {B : Nat} {e : TypeId} {v : Value} {n : Nat} {xs : List α} (h : w.ownsRow B e 1 v n (xs.map f)) (hI : IntsV w v) (hl : xs.length = n) :
    ∃ A c, v = .slice A xs.length c ∧ OwnS f w B e A xs ∧ ∀ a, A = some a → B ≤ a.block ∧ IntsA w a := by
  have h0 := h
  subst hl
  obtain ⟨A, c, hv, ho⟩ := ownS_of_row h0 rfl
  refine ⟨A, c, hv, ho, fun a ha => ?_⟩
  obtain ⟨hn, h | ⟨g, cap, cur, hv', hB, hg, hc, hm, hs, ht⟩⟩ := h
  · rw [h.1] at hv
    injection hv with h1
    rw [ha] at h1
    cases h1
  · rw [hv'] at hv
    injection hv with h1
    rw [ha] at h1
    injection h1 with h1
    subst h1
    exact ⟨hB, hI _ (by rw [hv']; rfl), rfl⟩
set_option maxRecDepth 100000 in
set_option maxHeartbeats 1600000 in
theorem hashRow_own (A : Option Addr) (c : Nat) (x : List Int) (salt : Nat) (w : World) (hx : RdL (Value.int .i64) w A x) (hn : x.length ≤ 256) (hbd : ∀ y ∈ x, 0 ≤ y ∧ y ≤ 4294967295) (hs : salt < 4294967296) :
    Calls Try.prog 83 #[.slice A x.length c, .int .i64 salt] w (RetLN (Value.int .i64) 2 w (rowH x salt x.length)) := by
  obtain ⟨i0, hi0, hz0, hz1, hz2⟩ := info_parts Try.infoI
  have HX := hid hx
  have HBD := hid hbd
  clear hx hbd
  go_enter Try.func83, Try.ntmps83
  go_wp2
  go_loopw [5, 7, 11] (fun v e_ i wr => ∃ k : Nat, k ≤ x.length ∧ i = .int .i64 k ∧ Hid (wr.ownsRow w.heap.size 2 1 v k ((rowH x salt k).map (Value.int .i64))) ∧ Hid (IntsV wr v) ∧ Hid (Below w.heap.size w wr)) (fun _ e_ i _ => x.length - (intOf i).toNat)
  case atStart => exact ⟨0, Nat.zero_le _, rfl, World.ownsRow_made w #[] 0 (Nat.le_refl _) (Nat.zero_le _) rfl, IntsV.made, below_a1 _ _⟩
  case round =>
    obtain ⟨k, hkr, rfl, hown, hI, hW⟩ := hrel
    by_cases hlt : k < x.length
    · have hi : (k : Int) < (x.length : Int) := by omega
      obtain ⟨b, o, y, rfl, hcy, hyk⟩ := (HX.out.below hW.out).at_ hlt
      have hyb := HBD.out y (List.mem_of_getElem? hyk.out)
      obtain ⟨yn, rfl⟩ := Int.eq_ofNat_of_zero_le hyb.1
      have hyl : yn < 4294967296 := by omega
      obtain ⟨hv, hve⟩ : ∃ h, h = hashN yn salt := ⟨_, rfl⟩
      have HV : Hid (hashAt x salt k = hv) := by show _ = _; unfold hashAt; rw [getD_of hyk, hve]; simp
      have C1 : Hid (∀ w, Calls Try.prog 111 #[.int .i64 (yn : Int), .int .i64 (salt : Int)] w fun e w'' => e = .returned (.int .i64 hv) ∧ w = w'') := fun w => (ihash_any yn salt w hyl hs).mono fun _ _ ⟨h, h'⟩ => ⟨by rw [h, hve], h'⟩
      clear hve hyb
      go_wp2_with (first | (go_at_call 111; refine (C1.out _).mono ?_; rintro e w' ⟨rfl, rfl⟩) | (at_builtin; refine wpList_append_ints rfl _ _ 22 rfl w.heap.size 2 i0 Try.underlying22 hi0 hz0 hz1 hz2 _ _ _ rfl (hown.out.alloc _) (hI.out.alloc _) ⟨wr.heap.size, 0, none⟩ 1 hv rfl ?c1 ?c3 ?c4 ?c5 ?_))
      case c1 => have := cell_one_new wr (Value.int .i64 hv) 2 0 _ rfl; simp
      case c3 => simp only [maxLen]; omega
      case c4 => omega
      case c5 => have := hW.out.size; simp; omega
      intro v' w1 hown' hgrow hI'
      have I1 := hid hI'
      clear hI'
      have hd : (rowH x salt k).map (Value.int .i64) ++ [Value.int .i64 hv] = (rowH x salt (k + 1)).map (Value.int .i64) := by rw [rowH_succ, HV.out]; simp
      rw [hd] at hown'
      have O1 := hid hown'
      have W1 : Hid (Below w.heap.size w w1) := (hW.out.alloc hW.out.size _).grown hgrow (by have := hW.out.size; simp; omega) (fun g hg => (hown.out.alloc (.cells #[.int .i64 hv] 2)).lt g hg |>.1)
      clear hown' hgrow hd
      go_wp2
      exact ⟨⟨k + 1, by omega, by go_num, O1, I1, W1⟩, by simp [intOf]; omega⟩
    · have hi : ¬ (k : Int) < (x.length : Int) := by omega
      obtain rfl : k = x.length := by omega
      go_wp2
      go_ret
      obtain ⟨A', c', hv, ho, hn'⟩ := ownS_of_rowN hown.out hI.out (rowH_length _ _ _)
      exact ⟨A', c', congrArg Ending.returned hv, ho, hn', hW.out⟩
set_option maxRecDepth 100000 in
set_option maxHeartbeats 4000000 in
/-- Whatever the order, all but the store. -/
theorem row_any (A : Option Addr) (c : Nat) (x : List Int) (A2 : Option Addr) (c2 : Nat) (sl : List Int) (C n i s bk bs bo : Nat) (w : World) (hx : RdL (Value.int .i64) w A x) (hn : x.length ≤ 256) (hbd : ∀ y ∈ x, 0 ≤ y ∧ y ≤ 4294967295)
    (hk : w.cell? ⟨bk, 0, none⟩ = some (.slice A x.length c)) (hs : w.cell? ⟨bs, 0, none⟩ = some (.slice A2 sl.length c2)) (ho : w.cell? ⟨bo, 0, none⟩ = some (.slice (some ⟨C, 0, none⟩) n n))
    (hi : i < n) (hin : n ≤ 4294967295) (b2 o2 : Nat) (hA2 : A2 = some ⟨b2, o2, none⟩) (his : i < sl.length) (hsc : w.cell? ⟨b2, o2 + i, none⟩ = some (.int .i64 s)) (hs32 : s < 4294967296)
    (Q : Act → World → Prop)
    (hQ : ∀ A' c' t0 t5 t6 t7 t8 t9 t10 t11 w', OwnS (Value.int .i64) w' w.heap.size 2 A' (rowH x s x.length) → (∀ a, A' = some a → w.heap.size ≤ a.block ∧ IntsA w' a) → Below w.heap.size w w' → Q ⟨#[t0, ptrB bk, ptrB bs, ptrB bo, undef, t5, t6, t7, t8, t9, t10, t11, .slice A' x.length c', .pointer (some ⟨C, i, none⟩)], []⟩ w') :
    wpAnyH Try.prog .any rowOps' (fun e a w => e = .normal ∧ Q a w) (fun w' : World => w'.cell? ⟨bk, 0, none⟩ = some (.slice A x.length c) ∧ w'.cell? ⟨bs, 0, none⟩ = some (.slice A2 sl.length c2) ∧ w'.cell? ⟨bo, 0, none⟩ = some (.slice (some ⟨C, 0, none⟩) n n) ∧ w'.cell? ⟨b2, o2 + i, none⟩ = some (.int .i64 s)) 10 (Array.replicate 10 false) ⟨#[.int .i64 i, ptrB bk, ptrB bs, ptrB bo, undef, undef, undef, undef, undef, undef, undef, undef, undef, undef], []⟩ w := by
  simp only [rowOps', rowOps, Try.f82, List.modify_toArray, List.modify_succ_cons, List.modify_zero_cons]
  subst hA2
  have hS : (fun w' : World => w'.cell? ⟨bk, 0, none⟩ = some (.slice A x.length c) ∧ w'.cell? ⟨bs, 0, none⟩ = some (.slice (some ⟨b2, o2, none⟩) sl.length c2) ∧ w'.cell? ⟨bo, 0, none⟩ = some (.slice (some ⟨C, 0, none⟩) n n) ∧ w'.cell? ⟨b2, o2 + i, none⟩ = some (.int .i64 s)) w := ⟨hk, hs, ho, hsc⟩
  have hi1 : (i : Int) < (n : Int) := by omega
  have hi2 : (i : Int) < (sl.length : Int) := by omega
  refine wpAnyH_take (i := 0) (v := ?_) rfl (by kernel_rfl) (by kernel_rfl) (by kernel_rfl) (fun _ _ _ h => absurd h.1 (by simp)) (Or.inl ⟨by rfl, ?_⟩) (by assumption) ?_
  rotate_left
  · intro w hSw
    (try dsimp only at hSw)
    obtain ⟨q1, q2, q3, q4⟩ := hSw
    go_simp
    all_goals with_reducible rfl
  try simp only [Act.put, List.setIfInBounds_toArray, List.set_cons_zero, List.set_cons_succ, List.getElem_toArray, List.getElem_cons_succ, List.getElem_cons_zero]
  refine wpAnyH_take (i := 1) (v := ?_) rfl (by kernel_rfl) (by kernel_rfl) (by kernel_rfl) (fun _ _ _ h => absurd h.1 (by simp)) (Or.inl ⟨by rfl, ?_⟩) (by assumption) ?_
  rotate_left
  · intro w hSw
    (try dsimp only at hSw)
    obtain ⟨q1, q2, q3, q4⟩ := hSw
    go_simp
    all_goals with_reducible rfl
  try simp only [Act.put, List.setIfInBounds_toArray, List.set_cons_zero, List.set_cons_succ, List.getElem_toArray, List.getElem_cons_succ, List.getElem_cons_zero]
  refine wpAnyH_take (i := 2) (v := ?_) rfl (by kernel_rfl) (by kernel_rfl) (by kernel_rfl) (fun _ _ _ h => absurd h.1 (by simp)) (Or.inl ⟨by rfl, ?_⟩) (by assumption) ?_
  rotate_left
  · intro w hSw
    (try dsimp only at hSw)
    obtain ⟨q1, q2, q3, q4⟩ := hSw
    go_simp
    all_goals with_reducible rfl
  try simp only [Act.put, List.setIfInBounds_toArray, List.set_cons_zero, List.set_cons_succ, List.getElem_toArray, List.getElem_cons_succ, List.getElem_cons_zero]
  refine wpAnyH_take (i := 3) (v := ?_) rfl (by kernel_rfl) (by kernel_rfl) (by kernel_rfl) (fun _ _ _ h => absurd h.1 (by simp)) (Or.inl ⟨by rfl, ?_⟩) (by assumption) ?_
  rotate_left
  · intro w hSw
    (try dsimp only at hSw)
    obtain ⟨q1, q2, q3, q4⟩ := hSw
    go_simp
    all_goals with_reducible rfl
  try simp only [Act.put, List.setIfInBounds_toArray, List.set_cons_zero, List.set_cons_succ, List.getElem_toArray, List.getElem_cons_succ, List.getElem_cons_zero]
  refine wpAnyH_take (i := 4) (v := ?_) rfl (by kernel_rfl) (by kernel_rfl) (by kernel_rfl) (fun _ _ _ h => absurd h.1 (by simp)) (Or.inl ⟨by rfl, ?_⟩) (by assumption) ?_
  rotate_left
  · intro w hSw
    (try dsimp only at hSw)
    obtain ⟨q1, q2, q3, q4⟩ := hSw
    go_simp
    all_goals with_reducible rfl
  try simp only [Act.put, List.setIfInBounds_toArray, List.set_cons_zero, List.set_cons_succ, List.getElem_toArray, List.getElem_cons_succ, List.getElem_cons_zero]
  refine wpAnyH_take (i := 5) (v := ?_) rfl (by kernel_rfl) (by kernel_rfl) (by kernel_rfl) (fun _ _ _ h => absurd h.1 (by simp)) (Or.inl ⟨by rfl, ?_⟩) (by assumption) ?_
  rotate_left
  · intro w hSw
    (try dsimp only at hSw)
    obtain ⟨q1, q2, q3, q4⟩ := hSw
    go_simp
    all_goals with_reducible rfl
  try simp only [Act.put, List.setIfInBounds_toArray, List.set_cons_zero, List.set_cons_succ, List.getElem_toArray, List.getElem_cons_succ, List.getElem_cons_zero]
  refine wpAnyH_take (i := 6) (v := ?_) rfl (by kernel_rfl) (by kernel_rfl) (by kernel_rfl) (fun _ _ _ h => absurd h.1 (by simp)) (Or.inl ⟨by rfl, ?_⟩) (by assumption) ?_
  rotate_left
  · intro w hSw
    (try dsimp only at hSw)
    obtain ⟨q1, q2, q3, q4⟩ := hSw
    go_simp
    all_goals with_reducible rfl
  try simp only [Act.put, List.setIfInBounds_toArray, List.set_cons_zero, List.set_cons_succ, List.getElem_toArray, List.getElem_cons_succ, List.getElem_cons_zero]
  refine wpAnyH_ready (rs := [7]) (by kernel_rfl) (by simp) ?_
  refine AllReadyH.cons rfl (fun K hK => ?_) AllReadyH.nil
  rw [if_pos (by rfl)]
  simp only [List.getElem_toArray, List.getElem_cons_succ, List.getElem_cons_zero]
  go_simp
  go_at_call 83
  refine (hashRow_own A c x s w hx hn hbd hs32).mono ?_
  rintro e w' ⟨A', c', rfl, hown, hnw, hb⟩
  rw [rowH_length]
  have low : ∀ {a : Addr} {v : Value}, w.cell? a = some v → w'.cell? a = some v := fun {a v} h => (hb.cell (World.block_lt_of_cell? w _ h)).trans h
  have hS2 : (fun w' : World => w'.cell? ⟨bk, 0, none⟩ = some (.slice A x.length c) ∧ w'.cell? ⟨bs, 0, none⟩ = some (.slice (some ⟨b2, o2, none⟩) sl.length c2) ∧ w'.cell? ⟨bo, 0, none⟩ = some (.slice (some ⟨C, 0, none⟩) n n) ∧ w'.cell? ⟨b2, o2 + i, none⟩ = some (.int .i64 s)) w' := ⟨low hk, low hs, low ho, low hsc⟩
  refine hK _ _ hS2 (fun hHeld => ?_)
  clear hK K hS
  try simp only [Act.put, List.setIfInBounds_toArray, List.set_cons_zero, List.set_cons_succ, List.getElem_toArray, List.getElem_cons_succ, List.getElem_cons_zero]
  refine wpAnyH_take (i := 8) (v := ?_) rfl (by kernel_rfl) (by kernel_rfl) (by kernel_rfl) (fun _ _ _ h => absurd h.1 (by simp)) (Or.inl ⟨by rfl, ?_⟩) (by assumption) ?_
  rotate_left
  · intro w hSw
    (try dsimp only at hSw)
    obtain ⟨q1, q2, q3, q4⟩ := hSw
    go_simp
    all_goals with_reducible rfl
  try simp only [Act.put, List.setIfInBounds_toArray, List.set_cons_zero, List.set_cons_succ, List.getElem_toArray, List.getElem_cons_succ, List.getElem_cons_zero]
  refine wpAnyH_take (i := 9) (v := ?_) rfl (by kernel_rfl) (by kernel_rfl) (by kernel_rfl) (fun _ _ _ h => absurd h.1 (by simp)) (Or.inl ⟨by rfl, ?_⟩) (by assumption) ?_
  rotate_left
  · intro w hSw
    (try dsimp only at hSw)
    obtain ⟨q1, q2, q3, q4⟩ := hSw
    go_simp
    all_goals with_reducible rfl
  try simp only [Act.put, List.setIfInBounds_toArray, List.set_cons_zero, List.set_cons_succ, List.getElem_toArray, List.getElem_cons_succ, List.getElem_cons_zero]
  refine wpAnyH_done (by kernel_rfl) ⟨rfl, ?_⟩ _
  exact hQ _ _ _ _ _ _ _ _ _ _ _ hown hnw hb
end Go.Proofs.Ytmmolicodlmlkaa
namespace Go.Proofs.Ytmmolicodlmlkaa
open Go.RowKit
open Go.Proofs.Ytmmolicodlmlkaa.Rel (ops_upto lastOk lastOk_sound linearise_same)
open Go.Conc (base enter_at)
set_option linter.unusedVariables false
set_option linter.unusedSimpArgs false

theorem row_guard : rowOps.all (fun o => o.guard.isNone) = true := by kernel_rfl
theorem row_mixed : Try.prog.follows .mixedOrders = true := by kernel_rfl
theorem row_body : Try.f82.body = some (.region 0 rowOps true) := rfl
theorem row_store' : rowOps'[9]? = some { dst := none, op := .move (.const (.bool true)), type := 0, pos := "l02_hashes.go:183", after := (rowOps[9]?.map Oper.after).getD #[], guard := none } := by kernel_rfl
/-- The lone run of a region that draws its order, up to its last operation. -/
theorem row_run {Q : Act → World → Prop} {S : World → Prop} {a : Act} {w : World} (h : wpAnyH Try.prog .any rowOps' (fun e a w => e = .normal ∧ Q a w) S 10 (Array.replicate 10 false) a { w with drawn := w.drawn + 1 }) (b : Frame) (cs : List Frame) :
    ∃ a' w', Q a' w' ∧ Steps Try.prog (lone (b.at a [.code (.region 0 rowOps true)]) cs w) (lone (b.at a' [.inRegion rowOps [9]]) cs w') := by
  have hd := step_region_draw (P := Try.prog) (b := b) (a := a) (k := []) (cs := cs) (w := w) (ops := rowOps) (id := 0)
  have hsch : Region.schedule (Try.prog.follows .mixedOrders) rowOps (w.tape w.drawn (.order b.fn 0)) = Region.linearise.go .any rowOps 10 (w.tape w.drawn (.order b.fn 0)) (Array.replicate 10 false) [] := by
    rw [row_mixed]
    show Region.linearise.go .any rowOps rowOps.size _ (Array.replicate rowOps.size false) [] = _
    rw [row_size]
  rw [hsch] at hd
  obtain ⟨l, hl, hnl⟩ := lastOk_sound 10 _ row_last (w.tape w.drawn (.order b.fn 0))
  have hsz : rowOps'.size = rowOps.size := by unfold rowOps'; simp
  have hw := wpAny_sound (P := Try.prog) (ops := rowOps') 10 (w.tape w.drawn (.order b.fn 0)) _ a _ (wpAny_of_held _ _ _ _ h)
  rw [linearise_same hsz row_same, hl] at hw
  rw [hl] at hd
  have hag : ∀ i ∈ l, rowOps'[i]? = rowOps[i]? ∧ ∀ o, rowOps[i]? = some o → o.guard = none := by
    intro i hi
    have hne : 9 ≠ i := fun e => hnl (e ▸ hi)
    refine ⟨by unfold rowOps'; rw [Array.getElem?_modify, if_neg hne], fun o ho => ?_⟩
    have := row_guard
    rw [Array.all_eq_true'] at this
    simpa using this o (Array.mem_of_getElem? ho)
  obtain ⟨a', w', hq, hs⟩ := ops_upto (P := Try.prog) (rest := [9]) (fun e a w hne h => hne h.1) l hag a _ hw b [] cs
  refine ⟨a', w', ?_, .head hd hs⟩
  simp only [wpOps, row_store'] at hq
  have hwn : ∀ y, Region.wanted ({ dst := none, op := .move (.const (.bool true)), type := 0, pos := "l02_hashes.go:183", after := (rowOps[9]?.map Oper.after).getD #[], guard := none } : Oper) y = true := fun y => rfl
  rw [if_pos (hwn _)] at hq
  rcases hq with hq | ⟨_, _, _, hq⟩
  · exact hq.2
  · cases hq.1
end Go.Proofs.Ytmmolicodlmlkaa
namespace Go.Proofs.Ytmmolicodlmlkaa.Ph
open Go.Conc Go.RowKit
open Go.Proofs.Ytmmolicodlmlkaa.Rel
set_option linter.unusedVariables false

/-- Another rely, another guarantee, another reckoning of what is its own, under what stands at every step. -/
theorem go1_map {σ σ' : Type} (φ : σ → σ') {P : Program} {main : Bool} {R : σ → World → World → Prop} {R' : σ' → World → World → Prop} {D : σ → World → World → Array Event → σ → Prop} {D' : σ' → World → World → Array Event → σ' → Prop} {Stop : σ → Goroutine → World → Prop} {I : σ → World → Prop}
    (hR : ∀ s a b, I s a → R' (φ s) a b → R s a b) (hI : ∀ s a b, R' (φ s) a b → I s a → I s b) (hD : ∀ s a b es s', I s a → D s a b es s' → D' (φ s) a b es (φ s') ∧ I s' b) {s : σ} {g : Goroutine} {w : World} (hi : I s w) (h : Go1 P main R D Stop s g w) :
    Go1 P main R' D' (fun t g w => ∃ s, t = φ s ∧ I s w ∧ Stop s g w) (φ s) g w := by
  obtain ⟨T, h⟩ := h
  induction T generalizing s g w with
  | leaf => exact .stop fun w₁ h₁ => ⟨s, rfl, hI _ _ _ h₁ hi, h w₁ (hR _ _ _ hi h₁)⟩
  | node f ih =>
    refine .intro fun w₁ h₁ => ?_
    have hi1 := hI _ _ _ h₁ hi
    rcases h w₁ (hR _ _ _ hi h₁) with h2 | ⟨hr, g', w', es, s', h2, h3, h4⟩
    · exact .inl ⟨s, rfl, hi1, h2⟩
    · obtain ⟨h5, h6⟩ := hD _ _ _ _ _ hi1 h3
      exact .inr ⟨hr, g', w', es, φ s', h2, h5, ih w₁ h6 h4⟩
section
variable {P : Program} {fs : FuncId → Bool} {v : World} {Rd S : Nat → Prop} {C : Nat} {cs : List Frame} {main : Bool}
/-- What may be named, where one block is named alone. -/
noncomputable abbrev fnsC (fs : FuncId → Bool) (v : World) (Rd S : Nat → Prop) (C : Nat) : Fns := fnsNa fs v (fun b => S b ∨ Rd b) S (fun b => b = C)
theorem fnsC_al {b : Nat} (hb : b < v.heap.size) (h : (fnsC fs v Rd S C).al b = true) (hn : (fnsC fs v Rd S C).na b = false) : (S b ∨ Rd b) ∧ plainO v.heap[b]? = true := by
  classical
  simp only [fnsC, fnsNa, decide_eq_false_iff_not] at hn
  simp only [fnsC, fnsNa, hb, if_true, hn, decide_false, Bool.false_or, Bool.and_eq_true, decide_eq_true_eq] at h
  exact h
theorem fnsC_na {b : Nat} : (fnsC fs v Rd S C).na b = true ↔ b = C := by
  classical
  simp only [fnsC, fnsNa, decide_eq_true_eq]
theorem fnsC_new {b : Nat} (hC : C < v.heap.size) (hb : v.heap.size ≤ b) : (fnsC fs v Rd S C).al b = true ∧ (fnsC fs v Rd S C).wr b = true ∧ (fnsC fs v Rd S C).na b = false := by
  classical
  have h1 : ¬ b < v.heap.size := by omega
  have h2 : ¬ b = C := by omega
  simp [fnsC, fnsNa, h1, h2]
theorem fnsC_old {b : Nat} (hb : b < v.heap.size) (ha : S b ∨ Rd b) (hp : plainO v.heap[b]? = true) : (fnsC fs v Rd S C).al b = true := by
  classical
  simp only [fnsC, fnsNa, hb, if_true, ha, decide_true, hp, Bool.and_self, Bool.or_true]
theorem fnsC_no {b : Nat} (hb : b < v.heap.size) : (fnsC fs v Rd No C).wr b = false := by
  classical
  simp only [fnsC, fnsNa, hb, if_true, decide_eq_false_iff_not]
  exact id
theorem fnsC_C (hb : C < v.heap.size) : (fnsC fs v Rd S C).al C = true := by
  classical
  simp only [fnsC, fnsNa, hb, if_true, decide_true, Bool.true_or]
theorem left_relyB {Fs : Fns} {S0 S1 : Nat → Prop} {Bd : Nat → Prop} {ρ : Rn} {wl w w₁ : World} (h : Rel.Left P Fs v Rd S0 ρ wl S1 w) (hal : ∀ b, b < v.heap.size → Fs.al b = true → Fs.na b = false → S0 b ∨ Rd b) (hna : ∀ b, Fs.na b = true → b < v.heap.size ∧ Bd b) (r : RSB Bd Rd S1 w w₁) : Rel.Left P Fs v Rd S0 ρ wl S1 w₁ := by
  refine ⟨h.id, h.new, h.wr.relyN (fun c hc hca hcn => ?_) (fun c hc hcn => ?_), h.low, h.mine, r.tape.trans h.tape, r.os.trans h.os, r.output.trans h.output, Nat.le_trans h.size r.size, fun b hb => (r.rd b hb).trans (h.rd b hb)⟩
  · show w₁.heap[ρ.f c]? = w.heap[ρ.f c]?
    rcases Nat.lt_or_ge c v.heap.size with hb | hb
    · rw [h.id c hb]
      rcases hal c hb hca hcn with h1 | h1
      · exact r.own c ((h.mine c).2 (.inl h1))
      · exact r.rd c h1
    · exact r.own _ ((h.mine _).2 (.inr ⟨c, hb, hc, rfl⟩))
  · obtain ⟨q1, q2⟩ := hna c hcn
    show ∀ cc e fr, w.heap[ρ.f c]? = _ → ∃ c' fr', w₁.heap[ρ.f c]? = _
    rw [h.id c q1]
    exact fun cc e fr hh => r.bd c q2 cc e fr hh
/-- What is read, where nothing that is there already is written: what others read too, what this one has made. -/
abbrev RdS (Rd S : Nat → Prop) : Nat → Prop := fun b => Rd b ∨ S b
/-- ████ A REGION UP TO AN OPERATION, BY A WORKER: what there was stands. ████ -/
theorem upto_worker {ty : TypeId} {Wg : Nat} {mine : Nat → Prop} {f : FuncId} {c : Code} {a : Act} {ops : Array Oper} {rest : List Nat} {Pre : Act → World → Prop} (hz : ZeroOk P) (hG : P.globals.size ≤ v.heap.size) (hO : ∀ ρ, FnsOk ⟨P, ρ, fnsC fs v (RdS Rd S) No C⟩) (hS : ∀ b, S b → b < v.heap.size) (hR : ∀ b, Rd b → b < v.heap.size)
    (hC : C < v.heap.size) (hCc : ∃ c e fr, v.heap[C]? = some (.cells c e fr)) (hc : codeOk P (fnsC fs v (RdS Rd S) No C) c = true) (hd : a.defers = []) (ha : ∀ x ∈ a.tmps, okV (fnsC fs v (RdS Rd S) No C) v.heap.size x = true)
    (hl : ∀ (τ : Nat → Question → Nat) (b : Frame) (cs : List Frame), ∃ a' w', Pre a' w' ∧ Steps P (lone (b.at a [.code c]) cs { loneW (fnsC fs v (RdS Rd S) No C) v with tape := τ, drawn := 0 }) (lone (b.at a' [.inRegion ops rest]) cs w')) :
    GW P ty Wg C mine Rd (fun S' g w => ∃ s ρ a' wl, S' = (fun b => S b ∨ s b) ∧ g = G ((base f).at ⟨a'.tmps.map (ren ρ), []⟩ [.inRegion ops rest]) cs ∧ Pre a' wl ∧ (∀ x ∈ a'.tmps, okJ (fnsC fs v (RdS Rd S) No C) wl.heap.size x = true) ∧ Rel.Left P (fnsC fs v (RdS Rd S) No C) v (RdS Rd S) No ρ wl s w ∧ OutStay C mine v w) S (G ((base f).at a [.code c]) cs) v := by
  have hal : ∀ b, b < v.heap.size → (fnsC fs v (RdS Rd S) No C).al b = true → (fnsC fs v (RdS Rd S) No C).na b = false → (No b ∨ RdS Rd S b) ∧ plainO v.heap[b]? = true := fun b hb h hn => fnsC_al hb h hn
  have hnew : ∀ b, v.heap.size ≤ b → (fnsC fs v (RdS Rd S) No C).al b = true ∧ (fnsC fs v (RdS Rd S) No C).wr b = true ∧ (fnsC fs v (RdS Rd S) No C).na b = false := fun b hb => fnsC_new hC hb
  have hna : ∀ b, (fnsC fs v (RdS Rd S) No C).na b = true → b = C := fun b h => fnsC_na.1 h
  have hCal : (fnsC fs v (RdS Rd S) No C).al C = true := fnsC_C hC
  have hwr : ∀ b, b < v.heap.size → (fnsC fs v (RdS Rd S) No C).wr b = true → No b := by
    classical
    intro b hb h
    simpa only [fnsC, fnsNa, hb, if_true, decide_eq_true_eq] using h
  generalize fnsC fs v (RdS Rd S) No C = Fs at *
  let StopL : Frame → List Frame → World → Prop := fun fl cl w => ∃ a', fl = (base f).at a' [.inRegion ops rest] ∧ cl = [badF] ∧ Pre a' w
  have U : Setup P Fs v.heap.size [] [] cs ((base f).at a [.code c]) ((base f).at a [.code c]) [badF] cs (loneW Fs v) v (fun b => b = C) (RdS Rd S) No StopL :=
    { hz := hz, hO := hO, hG := hG, hk := .inl ⟨rfl, rfl⟩,
      hST := fun ρ hρ => .last (by
        refine ⟨rfl, ⟨?_, fun x hx => okV_okJ _ _ _ (ha x hx)⟩, ⟨[.code c], [], [], rfl, rfl, fun it hit => by simp at hit; rw [hit]; exact hc, .here⟩, hd, hd, .inl ⟨rfl, rfl⟩, rfl, rfl, rfl, rfl⟩
        apply Array.ext (by simp [Frame.at])
        intro i h1 h2
        rw [Array.getElem_map]
        exact (ren_agree hρ _ (ha _ (Array.getElem_mem h1))).symm),
      hwl := loneW_size, hv := rfl, hW := fun ρ hρ => loneW_wr (fun b hb h hn => (hal b hb h hn).2) hnew (fun b h => by
        obtain rfl := hna b h
        exact ⟨hCal, hCc⟩) ρ hρ,
      hal := fun b hb h hn => (hal b hb h hn).1, hna := fun b h => (by rw [hna b h]; exact ⟨hC, rfl, id⟩), hwr := fun b hb _ h => hwr b hb h, hS0 := fun b h => h.elim, hRd := fun b hb => ⟨hb.elim (hR b) (hS b), id⟩,
      hTerm := fun τ => by
        obtain ⟨a', w', hp, M, hM⟩ := hl τ (base f) [badF]
        exact ⟨M, _, _, w', hM, a', rfl, rfl, hp⟩,
      hSL := fun fl cl w ⟨a', h1, h2, _⟩ => ⟨fun ch e => (by rw [h1] at e; cases e), (by rw [h2]; simp)⟩ }
  have h1 := transferB (main := false) U
  have hRB : ∀ (s : Nat → Prop) (a b : World), RW ty Wg C mine Rd (fun b => S b ∨ s b) a b → RSB (fun b => b = C) (RdS Rd S) s a b := fun s a b r =>
    ⟨⟨r.tape, r.os, r.output, r.size, fun y hy => r.own y (.inr hy), fun y hy => hy.elim (r.rd y) fun h => r.own y (.inl h)⟩, fun x hx cc e fr hh => by
      subst hx
      obtain ⟨cs', q1, _, _⟩ := r.out cc e fr hh
      exact ⟨cs', fr, q1⟩⟩
  have h2 : GW P ty Wg C mine Rd (fun t g w => ∃ s, t = (fun b => S b ∨ s b) ∧ (¬ s C ∧ C < w.heap.size ∧ (∀ b, S b → b < w.heap.size ∧ ¬ s b) ∧ OutStay C mine v w) ∧ StopC P Fs v.heap.size [] [] cs v (RdS Rd S) No StopL s g w) (fun b => S b ∨ No b) (G ((base f).at a [.code c]) cs) v := by
    refine go1_map (φ := fun (s : Nat → Prop) b => S b ∨ s b) (R' := RW ty Wg C mine Rd) (D' := DW Wg C mine Rd) (I := fun s w => ¬ s C ∧ C < w.heap.size ∧ (∀ b, S b → b < w.heap.size ∧ ¬ s b) ∧ OutStay C mine v w) (fun s a b _ r => hRB s a b r)
      (fun s a b r hi => ⟨hi.1, Nat.lt_of_lt_of_le hi.2.1 r.size, fun y hy => ⟨Nat.lt_of_lt_of_le (hi.2.2.1 y hy).1 r.size, (hi.2.2.1 y hy).2⟩, hi.2.2.2.trans r.out⟩) (fun s a b es s' hi d => ?_) ⟨id, hC, fun b hb => ⟨hS b hb, id⟩, .refl _ _ _⟩ h1
    obtain ⟨i1, i2, i3, i4⟩ := hi
    have no : ∀ y, y < a.heap.size → ¬ s y → ¬ s' y := fun y hy hn hs' => ((d.own y).1 hs').elim hn fun h => by omega
    refine ⟨⟨d.tape, d.os, d.output, d.size, fun y => ?_, fun y hy hn _ => d.old y hy fun h => hn (.inr h), .of_block (d.old C i2 i1), fun e he => .inl ?_⟩, no C i2 i1, Nat.lt_of_lt_of_le i2 d.size, fun y hy => ⟨Nat.lt_of_lt_of_le (i3 y hy).1 d.size, no y (i3 y hy).1 (i3 y hy).2⟩, i4.trans (.of_block (d.old C i2 i1))⟩
    · have := d.own y
      constructor
      · rintro (h | h)
        · exact .inl (.inl h)
        · exact (this.1 h).imp .inr id
      · rintro ((h | h) | h)
        · exact .inl h
        · exact .inr (this.2 (.inl h))
        · exact .inr (this.2 (.inr h))
    · rcases d.evs e he with ⟨ad, l1, l2, l3⟩ | ⟨r, l1, l2, l3⟩ | l
      · refine .inl ⟨ad, l1, ?_, l3⟩
        rcases l2 with l2 | ⟨l2 | l2, l4⟩
        · exact .inl (.inr l2)
        · exact .inr ⟨l2, l4⟩
        · exact .inl (.inl l2)
      · refine .inr (.inl ⟨r, l1, ?_, l3⟩)
        rcases l2 with l2 | l2 | l2
        · exact .inl (.inr l2)
        · exact .inr l2
        · exact .inl (.inl l2)
      · exact .inr (.inr l)
  have e0 : (fun b => S b ∨ No b) = S := by funext b; simp [No]
  rw [e0] at h2
  refine Go1.bind (fun _ a => RW.refl a) h2 ?_
  rintro S' g w ⟨s, rfl, hi, ρ, fl, cl, wl, hA, a', rfl, rfl, hp⟩
  refine Go1.stop fun w₁ h₁ => ?_
  obtain ⟨fc, cc, rfl, hst⟩ := hA.st
  have hfr : FR ⟨P, ρ, Fs⟩ wl.heap.size [] [] ((base f).at a' [.inRegion ops rest]) fc ∧ cc = cs := by
    rcases hst.fr with ⟨h, _, h2⟩ | ⟨_, _, _, h⟩
    · exact ⟨h, h2⟩
    · exfalso
      cases h with
      | cons _ _ _ h => cases h
  obtain ⟨hfr, rfl⟩ := hfr
  have htodo : fc.todo = [.inRegion ops rest] := by
    obtain ⟨its, tl, tc, t1, t2, _, hT⟩ := hfr.todo
    have t1 : [Item.inRegion ops rest] = its ++ tl := t1
    cases hT with
    | here =>
      rw [List.append_nil] at t1 t2
      rw [t2, t1]
    | seq _ _ =>
      cases its with
      | nil => simp at t1
      | cons x its => cases its <;> simp at t1
  have hm : fc.mode = .run := by
    rcases hfr.mode with ⟨_, h⟩ | ⟨h, _⟩
    · exact h
    · cases h
  have hL : Rel.Left P Fs v (RdS Rd S) No ρ wl s w := ⟨hA.id, hA.new, hA.wr, hA.low, hA.mine, hA.tape, hA.os, hA.output, hA.size, hA.rd⟩
  refine ⟨s, ρ, a', wl, rfl, ?_, hp, hfr.tmps.2, left_relyB (Bd := fun b => b = C) hL (fun b hb h hn => (hal b hb h hn).1) (fun b h => (by rw [hna b h]; exact ⟨hC, rfl⟩)) (hRB s _ _ h₁), hi.2.2.2.trans h₁.out⟩
  have e : fc = (base f).at ⟨a'.tmps.map (ren ρ), []⟩ [.inRegion ops rest] := by
    have h1 := hfr.fn
    have h2 := hfr.tmps.1
    have h3 := hfr.defc
    have h4 := hfr.kindc
    have h5 := hfr.roc
    obtain ⟨q1, q2, q3, q4, q5, q6, q7⟩ := fc
    simp only at h1 h2 h3 h4 h5 htodo hm
    subst h1; subst h2; subst h3; subst h4; subst h5; subst htodo; subst hm
    rfl
  rw [e]
end
section
variable {P : Program} {Fs : Fns} {v w wl : World} {Rd S0 S : Nat → Prop} {ρ : Rn}
/-- A block that the lone walk has made or turned, in company. -/
theorem left_blk (h : Rel.Left P Fs v Rd S0 ρ wl S w) {b : Nat} {c : Array Value} {e : TypeId} (ha : Fs.al b = true) (hb : wl.heap[b]? = some (.cells c e (0, 0))) : w.heap[ρ.f b]? = some (.cells (c.map (ren ρ)) e (0, 0)) ∧ ∀ x ∈ c, okJ Fs wl.heap.size x = true := by
  obtain ⟨ol, oc, h1, h2, h3⟩ := h.wr.blk b (Array.getElem?_eq_some_iff.1 hb).1 ha
  rw [hb] at h1
  obtain rfl := Option.some.inj h1
  have h2' : w.heap[ρ.f b]? = some oc := h2
  rw [h2']
  generalize ho : Obj.cells c e (0, 0) = o at h3
  cases h3 with
  | cells _ hc => injection ho with e1 e2; subst e1; subst e2; exact ⟨rfl, hc⟩
  | ro hc h0 => injection ho with e1 e2 e3; subst e1; subst e2; injection e3 with _ e4; obtain rfl := h0 e4.symm; exact ⟨rfl, hc⟩
  | bad => injection ho with e1 e2 e3; injection e3 with _ e4; cases e4
  | dull hd => cases oc <;> simp [stand] at ho hd
  | number => cases ho
theorem left_new (h : Rel.Left P Fs v Rd S0 ρ wl S w) {b : Nat} (h1 : v.heap.size ≤ b) (h2 : b < wl.heap.size) : S (ρ.f b) ∧ v.heap.size ≤ ρ.f b := ⟨(h.mine _).2 (.inr ⟨b, h1, h2, rfl⟩), h.new b h1⟩
theorem left_low (h : Rel.Left P Fs v Rd S0 ρ wl S w) (hal : ∀ b, v.heap.size ≤ b → Fs.al b = true) (hS : ∀ b, S0 b → b < v.heap.size) {b : Nat} (hb : S b) : b < w.heap.size := by
  rcases (h.mine b).1 hb with h1 | ⟨c, h1, h2, rfl⟩
  · exact Nat.lt_of_lt_of_le (hS b h1) h.size
  · obtain ⟨_, oc, _, h4, _⟩ := h.wr.blk c h2 (hal c h1)
    exact (Array.getElem?_eq_some_iff.1 h4).1
theorem left_ints (h : Rel.Left P Fs v Rd S0 ρ wl S w) {b : Nat} (ha : Fs.al b = true) (hb : Ints wl b) : Ints w (ρ.f b) := by
  obtain ⟨c, e, h1, h2⟩ := hb
  have h3 := (left_blk h ha h1).1
  refine ⟨_, e, h3, fun x hx => ?_⟩
  obtain ⟨y, hy, rfl⟩ := Array.mem_map.1 hx
  obtain ⟨i, rfl⟩ := h2 y hy
  exact ⟨i, by simp⟩
end
end Go.Proofs.Ytmmolicodlmlkaa.Ph
namespace Go.Proofs.Ytmmolicodlmlkaa.Ph
open Go.Conc Go.ConcN Go.RowKit Go.Conc.Lib Go.ConcR.Gen Go.ConcN.Gen
open Go.ConcR (KK wgBlock WgAt stA smA rd wr mk DC0 Payload)
open Go.Proofs.Ytmmolicodlmlkaa.Rel
set_option linter.unusedVariables false
set_option linter.unusedSimpArgs false

/-- What is worked on: keys, salts, the boxes that hold them, the block for the rows. -/
structure RowIn (Shun : Loc → Prop) (w0 : World) (A : Option Addr) (c : Nat) (x : List Int) (A2 : Option Addr) (c2 : Nat) (sl : List Int) (C bk bs bo : Nat) : Prop where
  glob : Try.prog.globals.size ≤ w0.heap.size
  x256 : x.length ≤ 256
  s32 : sl.length ≤ 32
  xb : ∀ y ∈ x, 0 ≤ y ∧ y ≤ 4294967295
  sb : ∀ y ∈ sl, 0 ≤ y ∧ y ≤ 4294967295
  rx : RdL (Value.int .i64) w0 A x
  rs : RdL (Value.int .i64) w0 A2 sl
  bA : ∀ a, A = some a → FreeB Shun w0 a.block ∧ a.block ≠ C ∧ Plz w0 a
  bA2 : ∀ a, A2 = some a → FreeB Shun w0 a.block ∧ a.block ≠ C ∧ Plz w0 a
  hk : FreeB Shun w0 bk ∧ bk ≠ C ∧ ∃ t, w0.heap[bk]? = some (.cells #[.slice A x.length c] t (0, 0))
  hs : FreeB Shun w0 bs ∧ bs ≠ C ∧ ∃ t, w0.heap[bs]? = some (.cells #[.slice A2 sl.length c2] t (0, 0))
  ho : FreeB Shun w0 bo ∧ bo ≠ C ∧ ∃ t, w0.heap[bo]? = some (.cells #[.slice (some ⟨C, 0, none⟩) sl.length sl.length] t (0, 0))
  hC : ∃ cs t, w0.heap[C]? = some (.cells cs t (0, 0)) ∧ cs.size = sl.length
/-- The rows of some numbers lie in blocks of S, each in its own. -/
def RowsIn (lo C : Nat) (x sl : List Int) (D : Nat → Prop) (S : Nat → Prop) (w : World) : Prop :=
  ∃ (R : Nat → Option Addr) (cc : Nat → Nat),
    (∀ o, D o → w.cell? ⟨C, o, none⟩ = some (.slice (R o) x.length (cc o)) ∧ OwnS (Value.int .i64) w lo 2 (R o) (rowH x (sl.getD o 0).toNat x.length) ∧ ∀ a, R o = some a → S a.block ∧ IntsA w a) ∧
    (∀ o o' a a', D o → D o' → R o = some a → R o' = some a' → a.block = a'.block → o = o')
theorem out_cell {C : Nat} {mine : Nat → Prop} {w w₁ : World} {o : Nat} {v : Value} (h : OutStay C mine w w₁) (hm : mine o) (hc : w.cell? ⟨C, o, none⟩ = some v) : w₁.cell? ⟨C, o, none⟩ = some v := by
  unfold World.cell? at hc ⊢
  simp only at hc ⊢
  cases hb : w.heap[C]? with
  | none => rw [hb] at hc; cases hc
  | some ob =>
    rw [hb] at hc
    cases ob <;> first | (simp at hc; done) | skip
    rename_i cs e fr
    obtain ⟨cs', h1, _, h3⟩ := h cs e fr hb
    rw [h1]
    simp only at hc ⊢
    simp only [Option.isSome_none, Bool.false_eq_true, if_false] at hc ⊢
    rw [h3 o hm]; exact hc
section
variable {Shun : Loc → Prop} {w0 w w₁ : World} {A A2 : Option Addr} {c c2 C bk bs bo lo k j i n : Nat} {x sl : List Int} {D D' S S' mine Rd : Nat → Prop}
theorem RowsIn.sub (h : RowsIn lo C x sl D S w) (hD : ∀ o, D' o → D o) : RowsIn lo C x sl D' S w :=
  let ⟨R, cc, h1, h2⟩ := h
  ⟨R, cc, fun o ho => h1 o (hD o ho), fun o o' a a' ho ho' => h2 o o' a a' (hD o ho) (hD o' ho')⟩
theorem RowsIn.stay (h : RowsIn lo C x sl D S w) (hS : ∀ b, S b → w₁.heap[b]? = w.heap[b]?) (hC : OutStay C mine w w₁) (hD : ∀ o, D o → mine o) (hSS : ∀ b, S b → S' b) : RowsIn lo C x sl D S' w₁ := by
  obtain ⟨R, cc, h1, h2⟩ := h
  refine ⟨R, cc, fun o ho => ?_, h2⟩
  obtain ⟨q1, q2, q3⟩ := h1 o ho
  refine ⟨out_cell hC (hD o ho) q1, fun hne => ?_, fun a ha => ?_⟩
  · obtain ⟨g, ex, e1, e2, e3⟩ := q2 hne
    exact ⟨g, ex, e1, e2, (hS g (q3 _ e1).1).trans e3⟩
  · obtain ⟨s1, s2⟩ := q3 a ha
    exact ⟨hSS _ s1, s2.stay (hS _ s1)⟩
theorem U0.rely (h : U0 Shun C w0 w) (hR : ∀ x, FreeB Shun w0 x ∧ x ≠ C → Rd x) {ty : TypeId} {Wg : Nat} (r : RW ty Wg C mine Rd S w w₁) : U0 Shun C w0 w₁ :=
  ⟨⟨r.tape.trans h.1.1, r.os.trans h.1.2.1, r.output.trans h.1.2.2⟩, fun x hx hC => (r.rd x (hR x ⟨hx, hC⟩)).trans (h.2.1 x hx hC), h.2.2.trans (r.out.weaken fun _ h => h.elim)⟩
/-- What a worker holds ahead of number i. -/
def JR (Shun : Loc → Prop) (C : Nat) (w0 : World) (x sl : List Int) (k j i : Nat) (S : Nat → Prop) (w : World) : Prop :=
  U0 Shun C w0 w ∧ (∀ b, S b → w0.heap.size ≤ b) ∧ i % k = j ∧ RowsIn w0.heap.size C x sl (fun o => o < i ∧ o % k = j) S w
theorem JR.rely {ty : TypeId} {Wg : Nat} (h : JR Shun C w0 x sl k j i S w) (hR : ∀ x, FreeB Shun w0 x ∧ x ≠ C → Rd x) (r : RW ty Wg C (fun o => o % k = j) Rd S w w₁) : JR Shun C w0 x sl k j i S w₁ :=
  ⟨h.1.rely hR r, h.2.1, h.2.2.1, h.2.2.2.stay r.own r.out (fun o ho => ho.2) fun _ h => h⟩
/-- .. and at its end. -/
def FactR (lo C : Nat) (x sl : List Int) (k j : Nat) (S : Nat → Prop) (w : World) : Prop :=
  (∀ b, S b → lo ≤ b) ∧ RowsIn lo C x sl (fun o => o < sl.length ∧ o % k = j) S w
theorem mod_next {o i k j : Nat} (h1 : o % k = j) (h2 : i % k = j) (h3 : i ≤ o) (h4 : o < i + k) : o = i := by
  have h5 := Nat.sub_mod_eq_zero_of_mod_eq (h1.trans h2.symm)
  rw [Nat.mod_eq_of_lt (by omega)] at h5
  omega
end
end Go.Proofs.Ytmmolicodlmlkaa.Ph
namespace Go.Proofs.Ytmmolicodlmlkaa.Ph
open Go.Conc Go.ConcN Go.RowKit Go.Conc.Lib Go.ConcR.Gen Go.ConcN.Gen
open Go.ConcR (KK wgBlock WgAt stA smA rd wr mk DC0 Payload)
open Go.Proofs.Ytmmolicodlmlkaa.Rel
set_option linter.unusedVariables false
set_option linter.unusedSimpArgs false

def rowFs : FuncId → Bool := fun f => [83, 111, 66].contains f
theorem rowOk1 : fnOk Try.prog rowFs Try.f83 = true := by kernel_rfl
theorem rowOk2 : fnOk Try.prog rowFs Try.f111 = true := by kernel_rfl
theorem rowOk3 : fnOk Try.prog rowFs Try.f66 = true := by kernel_rfl
theorem rowFs_ok : ∀ f, rowFs f = true → ∃ fn, Try.prog.funcs[f]? = some fn ∧ fnOk Try.prog rowFs fn = true := by
  intro f hf
  simp [rowFs] at hf
  rcases hf with rfl | rfl | rfl
  · exact ⟨_, Try.func83, rowOk1⟩
  · exact ⟨_, Try.func111, rowOk2⟩
  · exact ⟨_, Try.func66, rowOk3⟩
theorem zero_ok : ZeroOk Try.prog := zeroOk_of (by kernel_rfl)
theorem row_codeOk : codeOk Try.prog ⟨rowFs, fun _ => false, fun _ => false, fun _ => false⟩ (.region 0 rowOps true) = true := by kernel_rfl
theorem row_enter (i : Int) (bk bs bo : Nat) : Frame.enter Try.prog 82 (#[.int .i64 i] ++ #[ptr bk, ptr bs, ptr bo]) .normal =
    (base 82).at ⟨#[.int .i64 i, ptrB bk, ptrB bs, ptrB bo, undef, undef, undef, undef, undef, undef, undef, undef, undef, undef], []⟩ [.code (.region 0 rowOps true)] := by
  rw [enter_at _ Try.func82 row_body]
  rfl
section
variable {Wg C : Nat} {mine Rd S : Nat → Prop} {w : World}
theorem dw_store {o : Nat} {v : Value} {es : Array Event} (hm : mine o) (h : ∀ e ∈ es, e = ⟨.cell ⟨C, o, none⟩, true, false⟩) : DW Wg C mine Rd S w (w.setCell ⟨C, o, none⟩ v) es S := by
  have hs : (w.setCell ⟨C, o, none⟩ v).heap.size = w.heap.size := by simp [World.setCell]
  refine ⟨rfl, rfl, rfl, by omega, fun b => ⟨.inl, fun h => h.elim id fun h => by omega⟩, fun b hb hn hne => heap_setCell_other w _ b v hne, fun cs e fr h0 => ?_, fun e he => .inr ⟨o, true, hm, h e he⟩⟩
  refine ⟨cs.setIfInBounds o v, ?_, by simp, fun p hp => ?_⟩
  · unfold World.setCell
    simp only [Array.getElem?_modify, if_true, h0, Option.map_some]
    rfl
  · rw [Array.getElem?_setIfInBounds_ne (show o ≠ p from fun e => hp (e ▸ hm))]
end
theorem rdl_stay {w v : World} {A : Option Addr} {x : List Int} (h : RdL (Value.int .i64) w A x) (hs : ∀ a, A = some a → v.heap[a.block]? = w.heap[a.block]?) : RdL (Value.int .i64) v A x := by
  intro j hj
  obtain ⟨b, o, hA, hc⟩ := h j hj
  exact ⟨b, o, hA, (cell_stay (a := ⟨b, o + j, none⟩) (show v.heap[b]? = w.heap[b]? from hs _ hA)).trans hc⟩
theorem cell0 {w : World} {b : Nat} {v : Value} {t : TypeId} {fr : Nat × Nat} (h : w.heap[b]? = some (.cells #[v] t fr)) : w.cell? ⟨b, 0, none⟩ = some v := by simp [World.cell?, h]
section
variable {Shun : Loc → Prop} {w0 v : World} {A A2 : Option Addr} {c c2 C bk bs bo k j i Wg : Nat} {x sl : List Int} {S Rd : Nat → Prop}
/-- What the lone goroutine that stands for a worker finds. -/
theorem row_lone (I : RowIn Shun w0 A c x A2 c2 sl C bk bs bo) (hR : ∀ y, FreeB Shun w0 y ∧ y ≠ C → Rd y) (hi : i < sl.length) (hW : WI Wg C Rd S v) (hU : U0 Shun C w0 v) :
    (∀ y, FreeB Shun w0 y → y ≠ C → plainO w0.heap[y]? = true ∨ y = bk ∨ y = bs ∨ y = bo → (fnsC rowFs v (RdS Rd S) No C).al y = true) ∧
    ∃ b2 o2, A2 = some ⟨b2, o2, none⟩ ∧ (loneW (fnsC rowFs v (RdS Rd S) No C) v).cell? ⟨b2, o2 + i, none⟩ = some (.int .i64 ((sl.getD i 0).toNat : Nat)) ∧ RdL (Value.int .i64) (loneW (fnsC rowFs v (RdS Rd S) No C) v) A x ∧
    (loneW (fnsC rowFs v (RdS Rd S) No C) v).cell? ⟨bk, 0, none⟩ = some (.slice A x.length c) ∧ (loneW (fnsC rowFs v (RdS Rd S) No C) v).cell? ⟨bs, 0, none⟩ = some (.slice A2 sl.length c2) ∧ (loneW (fnsC rowFs v (RdS Rd S) No C) v).cell? ⟨bo, 0, none⟩ = some (.slice (some ⟨C, 0, none⟩) sl.length sl.length) := by
  have hst : ∀ y, FreeB Shun w0 y → y ≠ C → v.heap[y]? = w0.heap[y]? := hU.2.1
  have hna : ∀ y, y ≠ C → (fnsC rowFs v (RdS Rd S) No C).na y = false := fun y hy => by
    cases h : (fnsC rowFs v (RdS Rd S) No C).na y with
    | false => rfl
    | true => exact absurd (fnsC_na.1 h) hy
  have hal : ∀ y, FreeB Shun w0 y → y ≠ C → plainO (w0.heap[y]?) = true → (fnsC rowFs v (RdS Rd S) No C).al y = true := fun y hy hC hp => by
    have hr := hR y ⟨hy, hC⟩
    exact fnsC_old (hW.rd y hr).1 (.inr (.inl hr)) (by rw [hst y hy hC]; exact hp)
  have hlt : ∀ y, FreeB Shun w0 y → y ≠ C → y < v.heap.size := fun y hy hC => (hW.rd y (hR y ⟨hy, hC⟩)).1
  obtain ⟨hk1, hk2, tk, hk3⟩ := I.hk
  obtain ⟨hs1, hs2, ts, hs3⟩ := I.hs
  obtain ⟨ho1, ho2, tp, ho3⟩ := I.ho
  have okA : ∀ (B : Option Addr) (n cc : Nat), (∀ a, B = some a → FreeB Shun w0 a.block ∧ a.block ≠ C ∧ Plz w0 a) → okV (fnsC rowFs v (RdS Rd S) No C) v.heap.size (.slice B n cc) = true := by
    intro B n cc hB
    cases B with
    | none => simp
    | some a =>
      obtain ⟨q1, q2, q3, q4⟩ := hB a rfl
      rw [okV_sliceA _ _ _ _ q4]
      simp [Rel.inB, hlt _ q1 q2, hal _ q1 q2 q3]
  have okO : okV (fnsC rowFs v (RdS Rd S) No C) v.heap.size (.slice (some ⟨C, 0, none⟩) sl.length sl.length) = true := by
    rw [okV_slice]
    simp [Rel.inB, hW.c.1, fnsC_C hW.c.1]
  have cl : ∀ y u t, FreeB Shun w0 y → y ≠ C → w0.heap[y]? = some (.cells #[u] t (0, 0)) → okV (fnsC rowFs v (RdS Rd S) No C) v.heap.size u = true → (loneW (fnsC rowFs v (RdS Rd S) No C) v).cell? ⟨y, 0, none⟩ = some u := by
    intro y u t h1 h2 h3 h4
    have h5 := (hst y h1 h2).trans h3
    rw [Clean.cell (a := ⟨y, 0, none⟩) ⟨_, _, h5, fun z hz => by simp at hz; rw [hz]; exact h4⟩ (hna y h2) (hal y h1 h2 (by rw [h3]; rfl))]
    exact cell0 h5
  obtain ⟨b2, o2, hA2, hc2⟩ := I.rs i hi
  obtain ⟨p1, p2, p3, _⟩ := I.bA2 _ hA2
  have hnn : ((sl.getD i 0).toNat : Int) = sl[i] := by
    rw [List.getD_eq_getElem?_getD, List.getElem?_eq_getElem hi, Option.getD_some, Int.toNat_of_nonneg (I.sb _ (List.getElem_mem hi)).1]
  refine ⟨fun y h1 h2 h3 => hal y h1 h2 ?_, b2, o2, hA2, ?_, ?_, cl _ _ _ hk1 hk2 hk3 (okA _ _ _ I.bA), cl _ _ _ hs1 hs2 hs3 (okA _ _ _ I.bA2), cl _ _ _ ho1 ho2 ho3 okO⟩
  · rcases h3 with h3 | rfl | rfl | rfl
    · exact h3
    · rw [hk3]; rfl
    · rw [hs3]; rfl
    · rw [ho3]; rfl
  · rw [hnn]
    exact loneW_at (a := ⟨b2, o2 + i, none⟩) ((cell_stay (a := ⟨b2, o2 + i, none⟩) (hst b2 p1 p2)).trans hc2) (hna b2 p2) (hal b2 p1 p2 p3) (fnsC_no (hlt b2 p1 p2)) (by simp)
  · refine rdl_look (rdl_stay I.rx fun a ha => hst _ (I.bA a ha).1 (I.bA a ha).2.1) (fun _ => by simp) fun b o _ hA => ?_
    obtain ⟨q1, q2, q3, _⟩ := I.bA _ hA
    exact ⟨hna b q2, hal b q1 q2 q3, fnsC_no (hlt b q1 q2)⟩
end
end Go.Proofs.Ytmmolicodlmlkaa.Ph
namespace Go.Proofs.Ytmmolicodlmlkaa.Ph
open Go.Conc Go.ConcN Go.RowKit Go.Conc.Lib Go.ConcR.Gen Go.ConcN.Gen
open Go.ConcR (KK wgBlock WgAt stA smA rd wr mk DC0 Payload)
open Go.Proofs.Ytmmolicodlmlkaa.Rel
set_option linter.unusedVariables false
set_option linter.unusedSimpArgs false

section
variable {Shun : Loc → Prop} {w0 v : World} {A A2 : Option Addr} {c c2 C bk bs bo k j i Wg : Nat} {x sl : List Int} {S Rd : Nat → Prop}
/-- The new row, ahead of its store. -/
def NewRow (lo B : Nat) (x : List Int) (s : Nat) (R : Option Addr) (S : Nat → Prop) (w : World) : Prop :=
  OwnS (Value.int .i64) w lo 2 R (rowH x s x.length) ∧ ∀ a, R = some a → S a.block ∧ B ≤ a.block ∧ IntsA w a
theorem NewRow.rely {lo B s : Nat} {R : Option Addr} {w w₁ : World} (h : NewRow lo B x s R S w) (hS : ∀ b, S b → w₁.heap[b]? = w.heap[b]?) : NewRow lo B x s R S w₁ := by
  refine ⟨fun hne => ?_, fun a ha => ?_⟩
  · obtain ⟨g, ex, e1, e2, e3⟩ := h.1 hne
    exact ⟨g, ex, e1, e2, (hS g (h.2 _ e1).1).trans e3⟩
  · obtain ⟨q1, q2, q3⟩ := h.2 a ha
    exact ⟨q1, q2, q3.stay (hS _ q1)⟩
/-- Behind the store. -/
theorem jr_store {S' : Nat → Prop} {B cc : Nat} {R : Option Addr} {w : World} (h : JR Shun C w0 x sl k j i S w) (hSB : ∀ b, S b → b < B) (hSS : ∀ b, S b → S' b) (hlo' : ∀ b, S' b → w0.heap.size ≤ b) (hN : NewRow w0.heap.size B x (sl.getD i 0).toNat R S' w)
    (hCS : ¬ S' C) (hc : ∃ u, w.cell? ⟨C, i, none⟩ = some u) : JR Shun C w0 x sl k j (i + k) S' (w.setCell ⟨C, i, none⟩ (.slice R x.length cc)) := by
  obtain ⟨⟨⟨u1, u2, u3⟩, hst, hout⟩, hlo, hij, R0, c0, h1, h2⟩ := h
  have old : ∀ b, b ≠ C → (w.setCell ⟨C, i, none⟩ (.slice R x.length cc)).heap[b]? = w.heap[b]? := fun b hb => heap_setCell_other w _ b _ hb
  have oS : ∀ b, S' b → (w.setCell ⟨C, i, none⟩ (.slice R x.length cc)).heap[b]? = w.heap[b]? := fun b hb => old b fun e => hCS (e ▸ hb)
  have hnew : (w.setCell ⟨C, i, none⟩ (.slice R x.length cc)).cell? ⟨C, i, none⟩ = some (.slice R x.length cc) := by
    obtain ⟨u, hu⟩ := hc
    exact World.cell?_setCell_same _ _ _ hu
  have hoth : ∀ o, o ≠ i → (w.setCell ⟨C, i, none⟩ (.slice R x.length cc)).cell? ⟨C, o, none⟩ = w.cell? ⟨C, o, none⟩ := fun o ho => World.cell?_setCell_other _ _ _ _ (fun e => ho (by injection e with _ e _; exact e.symm))
  have hlt : ∀ {o : Nat}, o < i + k → o % k = j → o ≠ i → o < i := fun {o} h1 h2 h3 => by
    rcases Nat.lt_or_ge o i with h | h
    · exact h
    · exact absurd (mod_next h2 hij h h1) h3
  refine ⟨⟨⟨u1, u2, u3⟩, fun y hy hC => (old y hC).trans (hst y hy hC), hout.trans fun cs e fr h0 => ⟨cs.setIfInBounds i (.slice R x.length cc), ?_, by simp, fun _ h => h.elim⟩⟩, hlo', by rw [Nat.add_mod_right]; exact hij,
    fun o => if o = i then R else R0 o, fun o => if o = i then cc else c0 o, fun o ho => ?_, fun o o' a a' ho ho' ha ha' hb => ?_⟩
  · unfold World.setCell
    simp only [Array.getElem?_modify, if_true, h0, Option.map_some]
    rfl
  · by_cases he : o = i
    · subst he
      simp only [if_true]
      have hN' := hN.rely oS
      exact ⟨hnew, hN'.1, fun a ha => let ⟨q1, _, q3⟩ := hN'.2 a ha; ⟨q1, q3⟩⟩
    · obtain ⟨q1, q2, q3⟩ := h1 o ⟨hlt ho.1 ho.2 he, ho.2⟩
      simp only [he, if_false]
      refine ⟨(hoth o he).trans q1, fun hne => ?_, fun a ha => ?_⟩
      · obtain ⟨g, ex, e1, e2, e3⟩ := q2 hne
        exact ⟨g, ex, e1, e2, (oS g (hSS _ (q3 _ e1).1)).trans e3⟩
      · obtain ⟨s1, s2⟩ := q3 a ha
        exact ⟨hSS _ s1, s2.stay (oS _ (hSS _ s1))⟩
  · by_cases he : o = i <;> by_cases he' : o' = i
    · rw [he, he']
    · simp only [he, he', if_true, if_false] at ha ha'
      have hl := hlt ho'.1 ho'.2 he'
      have := hSB _ ((h1 o' ⟨hl, ho'.2⟩).2.2 a' ha').1
      have := (hN.2 a ha).2.1
      omega
    · simp only [he, he', if_true, if_false] at ha ha'
      have hl := hlt ho.1 ho.2 he
      have := hSB _ ((h1 o ⟨hl, ho.2⟩).2.2 a ha).1
      have := (hN.2 a' ha').2.1
      omega
    · simp only [he, he', if_false] at ha ha'
      exact h2 o o' a a' ⟨hlt ho.1 ho.2 he, ho.2⟩ ⟨hlt ho'.1 ho'.2 he', ho'.2⟩ ha ha' hb
set_option maxRecDepth 100000 in
set_option maxHeartbeats 4000000 in
/-- ████ THE WORK FOR ONE NUMBER. ████ -/
theorem row_do (I : RowIn Shun w0 A c x A2 c2 sl C bk bs bo) (hk : 1 ≤ k) (hWg : w0.heap.size ≤ Wg) (hR : ∀ y, FreeB Shun w0 y ∧ y ≠ C → Rd y) (hi : i < sl.length) (hW : WI Wg C Rd S v) (hJ : JR Shun C w0 x sl k j i S v)
    (b : Frame) (a : Act) (ops : Array Oper) (xx : Nat) (rest : List Nat) (kk : List Item) (cs : List Frame) :
    GW Try.prog link.tWg Wg C (fun o => o % k = j) Rd (fun S' g' w' => g' = G (b.at (a.put ((ops[xx]?).bind (·.dst)) (.tuple #[])) (.inRegion ops rest :: kk)) cs ∧ JR Shun C w0 x sl k j (i + k) S' w') S
      (G (Frame.enter Try.prog 82 (#[.int .i64 i] ++ #[ptr bk, ptr bs, ptr bo]) .normal) (b.at a (.inRegion ops (xx :: rest) :: kk) :: cs)) v := by
  obtain ⟨hal, b2, o2, hA2, hsc, hrx, hck, hcs, hco⟩ := row_lone I hR hi hW hJ.1
  have hlt : ∀ y, FreeB Shun w0 y → y ≠ C → y < v.heap.size := fun y hy hC => (hW.rd y (hR y ⟨hy, hC⟩)).1
  have hwgv := hW.wg.1
  have hgl := I.glob
  have hss : sl.getD i 0 ≤ 4294967295 ∧ 0 ≤ sl.getD i 0 := by
    have := I.sb sl[i] (List.getElem_mem hi)
    rw [List.getD_eq_getElem?_getD, List.getElem?_eq_getElem hi, Option.getD_some]
    omega
  have hs32 := I.s32
  rw [row_enter]
  let Pre : Act → World → Prop := fun a' w' => ∃ A' c' t0 t5 t6 t7 t8 t9 t10 t11, a' = ⟨#[t0, ptrB bk, ptrB bs, ptrB bo, undef, t5, t6, t7, t8, t9, t10, t11, .slice A' x.length c', .pointer (some ⟨C, i, none⟩)], []⟩ ∧
    OwnS (Value.int .i64) w' v.heap.size 2 A' (rowH x (sl.getD i 0).toNat x.length) ∧ ∀ a, A' = some a → v.heap.size ≤ a.block ∧ IntsA w' a
  have hup := upto_worker (P := Try.prog) (fs := rowFs) (v := v) (Rd := Rd) (S := S) (C := C) (cs := b.at a (.inRegion ops (xx :: rest) :: kk) :: cs) (ty := link.tWg) (Wg := Wg) (mine := fun o => o % k = j) (f := 82) (c := .region 0 rowOps true)
    (a := ⟨#[.int .i64 i, ptrB bk, ptrB bs, ptrB bo, undef, undef, undef, undef, undef, undef, undef, undef, undef, undef], []⟩) (ops := rowOps) (rest := [9]) (Pre := Pre) zero_ok (by omega) (fun ρ => by unfold fnsC fnsNa; exact fnsOk_of rowFs_ok) hW.s (fun y hy => (hW.rd y hy).1) hW.c.1
    (by
      obtain ⟨cs0, t, h1, _⟩ := I.hC
      obtain ⟨cs1, h2, _⟩ := hJ.1.2.2 _ _ _ h1
      exact ⟨_, _, _, h2⟩)
    (by unfold fnsC fnsNa; exact code_mono _ row_codeOk) rfl
    (by
      have hp : ∀ y, FreeB Shun w0 y → y ≠ C → (fnsC rowFs v (RdS Rd S) No C).al y = true → okV (fnsC rowFs v (RdS Rd S) No C) v.heap.size (ptrB y) = true := fun y h1 h2 h3 => by
        rw [okV_pointer]
        simp [Rel.inB, hlt y h1 h2, h3]
      intro z hz
      simp at hz
      rcases hz with rfl | rfl | rfl | rfl | rfl
      · simp
      · exact hp _ I.hk.1 I.hk.2.1 (hal _ I.hk.1 I.hk.2.1 (.inr (.inl rfl)))
      · exact hp _ I.hs.1 I.hs.2.1 (hal _ I.hs.1 I.hs.2.1 (.inr (.inr (.inl rfl))))
      · exact hp _ I.ho.1 I.ho.2.1 (hal _ I.ho.1 I.ho.2.1 (.inr (.inr (.inr rfl))))
      · exact okV_undef _ _)
    (fun τ b cs => row_run (Q := Pre) (w := { loneW (fnsC rowFs v (RdS Rd S) No C) v with tape := τ, drawn := 0 }) (row_any A c x A2 c2 sl C sl.length i (sl.getD i 0).toNat bk bs bo { loneW (fnsC rowFs v (RdS Rd S) No C) v with tape := τ, drawn := 0 + 1 } hrx I.x256 I.xb hck hcs hco hi (by omega) b2 o2 hA2 hi hsc (by omega) Pre
      (fun A' c' t0 t5 t6 t7 t8 t9 t10 t11 w' h1 h2 _ => ⟨A', c', t0, t5, t6, t7, t8, t9, t10, t11, rfl, by have := loneW_size (Fs := fnsC rowFs v (RdS Rd S) No C) (v := v); simpa only [this] using h1, by have := loneW_size (Fs := fnsC rowFs v (RdS Rd S) No C) (v := v); simpa only [this] using h2⟩)) b cs)
  refine Go1.bind (fun _ a => RW.refl a) hup ?_
  rintro S' g w ⟨s, ρ, a', wl, rfl, rfl, ⟨A', c', t0, t5, t6, t7, t8, t9, t10, t11, rfl, hown, hnw⟩, hok, hL, hout⟩
  have hCid : ρ.f C = C := hL.id C hW.c.1
  have hSlo : ∀ b, s b → v.heap.size ≤ b := by
    intro b hb
    rcases (hL.mine b).1 hb with h | ⟨c, h1, _, e⟩
    · exact h.elim
    · have := hL.new c h1; omega
  have hw0v : w0.heap.size ≤ v.heap.size := by omega
  have hJw : JR Shun C w0 x sl k j i S w :=
    ⟨⟨⟨hL.tape.trans hJ.1.1.1, hL.os.trans hJ.1.1.2.1, hL.output.trans hJ.1.1.2.2⟩, fun y hy hC => (hL.rd y (.inl (hR y ⟨hy, hC⟩))).trans (hJ.1.2.1 y hy hC), hJ.1.2.2.trans (hout.weaken fun _ h => h.elim)⟩, hJ.2.1, hJ.2.2.1,
      hJ.2.2.2.stay (fun b hb => hL.rd b (.inr hb)) hout (fun o ho => ho.2) fun _ h => h⟩
  have hN : NewRow w0.heap.size v.heap.size x (sl.getD i 0).toNat (A'.map (renS ρ)) (fun b => S b ∨ s b) w := by
    refine ⟨fun hne => ?_, fun a ha => ?_⟩
    · obtain ⟨g, ex, e1, e2, e3⟩ := (hL.own (fun b hb => (fnsC_new hW.c.1 hb).1) (fun y => by simp) hown).1 hne
      exact ⟨g, ex, e1, by omega, e3⟩
    · obtain ⟨a0, rfl, rfl⟩ := Option.map_eq_some_iff.1 ha
      obtain ⟨q1, q2⟩ := hnw a0 rfl
      have hlt : a0.block < wl.heap.size := by
        obtain ⟨⟨_, _, q3, _⟩, _⟩ := q2
        exact (Array.getElem?_eq_some_iff.1 q3).1
      rw [renS_none _ q2.2]
      exact ⟨.inr ((hL.mine _).2 (.inr ⟨a0.block, q1, hlt, rfl⟩)), hL.new _ q1, left_ints hL (fnsC_new hW.c.1 q1).1 q2.1, q2.2⟩
  have hlo' : ∀ b, (S b ∨ s b) → w0.heap.size ≤ b := fun b hb => hb.elim (hJ.2.1 b) fun h => by have := hSlo b h; omega
  have hCS : ¬ (S C ∨ s C) := fun h => h.elim hW.c.2 fun h => by have := hSlo C h; have := hW.c.1; omega
  have hF : JR Shun C w0 x sl k j i S w ∧ NewRow w0.heap.size v.heap.size x (sl.getD i 0).toNat (A'.map (renS ρ)) (fun b => S b ∨ s b) w := ⟨hJw, hN⟩
  have rl : ∀ {a b : World}, JR Shun C w0 x sl k j i S a ∧ NewRow w0.heap.size v.heap.size x (sl.getD i 0).toNat (A'.map (renS ρ)) (fun b => S b ∨ s b) a → RW link.tWg Wg C (fun o => o % k = j) Rd (fun b => S b ∨ s b) a b →
      JR Shun C w0 x sl k j i S b ∧ NewRow w0.heap.size v.heap.size x (sl.getD i 0).toNat (A'.map (renS ρ)) (fun b => S b ∨ s b) b := fun h r =>
    ⟨⟨h.1.1.rely hR r, h.1.2.1, h.1.2.2.1, h.1.2.2.2.stay (fun b hb => r.own b (.inl hb)) r.out (fun o ho => ho.2) fun _ h => h⟩, h.2.rely r.own⟩
  simp only [List.map_toArray, List.map_cons, List.map_nil, ren_pointer, ren_slice, Option.map_some, renA, hCid]
  generalize ren ρ t0 = t0
  generalize ren ρ t5 = t5
  generalize ren ρ t6 = t6
  generalize ren ρ t7 = t7
  generalize ren ρ t8 = t8
  generalize ren ρ t9 = t9
  generalize ren ρ t10 = t10
  generalize ren ρ t11 = t11
  generalize ren ρ undef = t4
  simp only [rowOps, Try.f82]
  refine go1_op rfl rfl (by k_ne) (fun w₂ h₂ K hK => ?_)
  replace hF := rl hF h₂
  clear h₂
  obtain ⟨cs0, t, hC0, hC1⟩ := I.hC
  obtain ⟨cs1, hC2, hC3, _⟩ := hF.1.1.2.2 _ _ _ hC0
  have hi1 : i < cs1.size := by omega
  have hcC : w₂.cell? ⟨C, i, none⟩ = some cs1[i] := by simp [World.cell?, hC2, hi1]
  have hfz : w₂.frozen? ⟨C, i, none⟩ = false := by simp [World.frozen?, hC2]
  go_simp
  refine hK _ _ ⟨_, dw_store (o := i) hJ.2.2.1 (fun e he => ?_), ?_⟩
  · have hm := mem_listed he
    simp [go_sem, storedEv, *] at hm
    exact hm
  clear hK K
  replace hF := jr_store (cc := c') hF.1 hW.s (fun _ h => .inl h) hlo' hF.2 hCS ⟨_, hcC⟩
  clear hcC hfz hC2 hi1
  generalize w₂.setCell _ _ = w₃ at hF ⊢
  have rl2 : ∀ {a b : World}, JR Shun C w0 x sl k j (i + k) (fun b => S b ∨ s b) a → RW link.tWg Wg C (fun o => o % k = j) Rd (fun b => S b ∨ s b) a b → JR Shun C w0 x sl k j (i + k) (fun b => S b ∨ s b) b := fun h r => h.rely hR r
  refine gw_last (n := 6) ?_
  (u_in rl2 hF; rw [stepG_region_end]; simp only [goes_go]; refine ⟨by (refine de1_none ?_; intro e he; simp at he), ?_⟩)
  (u_in rl2 hF; rw [stepG_end]; simp only [goes_go]; refine ⟨by (refine de1_none ?_; intro e he; simp at he), ?_⟩)
  (u_in rl2 hF; refine goes_leave0 rfl rfl Try.func82 rfl ⟨by (refine de1_none ?_; intro e he; simp at he), ?_⟩; walk_nrm)
  exact Goes.stop fun w₁ h₁ => ⟨rfl, rl2 hF h₁⟩
theorem nm_row : (Try.f82.name == "runtime.NumGoroutine") = false := by kernel_rfl
/-- ████ .. AS sharedWork ASKS FOR IT. ████ -/
theorem row_task (I : RowIn Shun w0 A c x A2 c2 sl C bk bs bo) (hk : 1 ≤ k ∧ k < 65536) (hWg : w0.heap.size ≤ Wg) (b1 b2 b3 : Nat) :
    Task Wg C b1 b2 b3 sl.length k 82 #[ptr bk, ptr bs, ptr bo] (fun b => FreeB Shun w0 b ∧ b ≠ C) (fun j o => o % k = j) (U0 Shun C w0) (fun j i S w => JR Shun C w0 x sl k j i S w) (fun j S w => FactR w0.heap.size C x sl k j S w) where
  hn := by have := I.s32; omega
  hk := hk
  fn := ⟨_, _, Try.func82, nm_row, row_body⟩
  hU := fun a b ht hx hC h => ⟨⟨ht.1.trans h.1.1, ht.2.1.trans h.1.2.1, ht.2.2.trans h.1.2.2⟩, fun y hy hyC => (hx y ⟨hy, hyC⟩).trans (h.2.1 y hy hyC), h.2.2.trans hC⟩
  hJ := fun j Rd i S a b hR r h => h.rely hR r
  hF := fun j S a b hS hC h => ⟨h.1, h.2.stay hS hC (fun o ho => ho.2) fun _ h => h⟩
  h0 := fun j w hj hU => ⟨hU, fun b hb => hb.elim, Nat.mod_eq_of_lt hj, fun _ => none, fun _ => 0, fun o ho => (by
    have h1 := ho.1
    have h2 := ho.2
    rw [Nat.mod_eq_of_lt (by omega)] at h2
    omega), fun o o' a a' _ _ h => by cases h⟩
  hend := fun j i S w hi h => ⟨h.2.1, h.2.2.2.sub fun o ho => ⟨by omega, ho.2⟩⟩
  hdo := fun j hj Rd bw bf b1 hR i S w b a ops xx rest kk cs hi hI hJ => row_do I hk.1 hWg hR hi hI.geo hJ b a ops xx rest kk cs
end
end Go.Proofs.Ytmmolicodlmlkaa.Ph
namespace Go.Proofs.Ytmmolicodlmlkaa.Ph
open Go.Conc Go.RowKit
open Go.Proofs.Ytmmolicodlmlkaa.Rel
set_option linter.unusedVariables false

section
variable {P : Program} {fs : FuncId → Bool} {v : World} {F W : Nat → Prop} {cs : List Frame} {Stop : (Nat → Prop) → Goroutine → World → Prop} {g : Goroutine} {w : World}
/-- What is read alone is its own too, beside leavers. -/
theorem gl_of (hsub : ∀ b, W b → F b) (h : Go1 P true (RS (fun b => F b ∧ ¬ W b)) (DS (fun b => F b ∧ ¬ W b)) Stop W g w) : GL P (fun t g w => ∃ s, t = (fun b => (F b ∧ ¬ W b) ∨ s b) ∧ Stop s g w) F g w := by
  have h1 := go1_map (φ := fun (s : Nat → Prop) b => (F b ∧ ¬ W b) ∨ s b) (R' := RS No) (D' := DS No) (I := fun _ _ => True)
    (fun s a b _ r => ⟨r.tape, r.os, r.output, r.size, fun y hy => r.own y (.inr hy), fun y hy => r.own y (.inl hy)⟩) (fun _ _ _ _ _ => trivial) (fun s a b es s' _ d => ⟨⟨d.tape, d.os, d.output, d.size, fun y => ?_, fun y hy hn => d.old y hy fun h => hn (.inr h), fun e he => ?_⟩, trivial⟩) trivial h
  · have e0 : (fun b => (F b ∧ ¬ W b) ∨ W b) = F := by
      funext b
      apply propext
      by_cases hb : W b
      · simp [hb, hsub b hb]
      · simp [hb]
    rw [e0] at h1
    obtain ⟨T, h1⟩ := h1
    exact ⟨T, h1.mono (fun _ _ _ h => h) (fun _ _ _ _ _ h => h) fun t g w ⟨s, e, _, hs⟩ => ⟨s, e, hs⟩⟩
  · have := d.own y
    constructor
    · rintro (h | h)
      · exact .inl (.inl h)
      · exact (this.1 h).imp .inr id
    · rintro ((h | h) | h)
      · exact .inl h
      · exact .inr (this.2 (.inl h))
      · exact .inr (this.2 (.inr h))
  · rcases d.evs e he with ⟨ad, l1, l2, l3⟩ | ⟨r, l1, l2, l3⟩ | l
    · exact .inl ⟨ad, l1, .inl (l2.elim .inr fun h => .inl h.1), l3⟩
    · exact .inr (.inl ⟨r, l1, .inl (l2.elim .inr .inl), l3⟩)
    · exact .inr (.inr l)
/-- The lone walk through the first n statements comes to a return. -/
def Rets (P : Program) (f : FuncId) (n : Nat) (c : Code) (Post : Value → World → Prop) (a : Act) (w : World) : Prop :=
  (cut n c).1.wp P (fun e a' w' => e = .ret ∧ a'.defers = [] ∧ ∃ fn v, P.funcs[f]? = some fn ∧ (results fn a'.tmps).run P w' = .ok v w' ∧ Post v w') a w
end
section
variable {P : Program} {fs : FuncId → Bool} {v : World} {Rd S : Nat → Prop} {cs : List Frame} {main : Bool}
/-- ████ TO A RETURN AHEAD OF A CUT, IN COMPANY. ████ -/
theorem ret_company {f : FuncId} {fn0 : Func} {c : Code} {n : Nat} {a : Act} {Q : Value → World → Prop} (hz : ZeroOk P) (hG : P.globals.size ≤ v.heap.size) (hO : ∀ ρ, FnsOk ⟨P, ρ, fnsOf fs v (fun b => S b ∨ Rd b) S⟩) (hS : ∀ b, S b → b < v.heap.size) (hR : ∀ b, Rd b → b < v.heap.size ∧ ¬ S b)
    (hf0 : P.funcs[f]? = some fn0) (hres0 : fn0.results.all resOk = true) (hsp : spineOk P (fnsOf fs v (fun b => S b ∨ Rd b) S) n c = true) (hd : a.defers = []) (ha : ∀ x ∈ a.tmps, okV (fnsOf fs v (fun b => S b ∨ Rd b) S) v.heap.size x = true)
    (hl : ∀ τ, Rets P f n c Q a { loneW (fnsOf fs v (fun b => S b ∨ Rd b) S) v with tape := τ, drawn := 0 }) :
    Go1 P main (RS Rd) (DS Rd) (RetC P (fnsOf fs v (fun b => S b ∨ Rd b) S) v Rd S f cs Q) S (G ((base f).at a [.code c]) cs) v := by
  classical
  have hal : ∀ b, b < v.heap.size → (fnsOf fs v (fun b => S b ∨ Rd b) S).al b = true → (S b ∨ Rd b) ∧ plainO v.heap[b]? = true := by
    intro b hb h
    simp only [fnsOf, hb, if_true, Bool.and_eq_true, decide_eq_true_eq] at h
    exact h
  have hwrs : ∀ b, b < v.heap.size → (fnsOf fs v (fun b => S b ∨ Rd b) S).wr b = true → S b := by
    intro b hb h
    simpa only [fnsOf, hb, if_true, decide_eq_true_eq] using h
  generalize hFs : fnsOf fs v (fun b => S b ∨ Rd b) S = Fs at *
  let StopL : Frame → List Frame → World → Prop := fun fl cl w => ∃ u, Q u w ∧ cl = [badF] ∧ fl.fn = f ∧ fl.leaving P w (.returned u)
  have U := setup_lone (P := P) (fs := fs) (v := v) (Rd := Rd) (S := S) (cs := cs) (kl := [.code (.refuse "")]) (kc := [.code (cut n c).2]) (fl0 := (base f).at a [.code (cut n c).1]) (fc0 := (base f).at a [.code c]) (StopL := StopL) hz hG (by rw [hFs]; exact hO) hS hR (.inr rfl)
    (by
      rw [hFs]
      intro ρ hρ
      refine ⟨rfl, ⟨?_, fun x hx => okV_okJ _ _ _ (ha x hx)⟩, ⟨[], _, _, rfl, rfl, by simp, tl_cut n c hsp⟩, hd, hd, .inl ⟨rfl, rfl⟩, rfl, rfl, rfl, rfl⟩
      apply Array.ext (by simp [Frame.at])
      intro i h1 h2
      rw [Array.getElem_map]
      exact (ren_agree hρ _ (ha _ (Array.getElem_mem h1))).symm)
    (by
      rw [hFs]
      intro τ
      obtain ⟨e, a', w', ⟨rfl, hdf, fn, u, hfn, hr, hq⟩, harr⟩ := hl τ (base f) [] [badF]
      obtain ⟨todo, M, hM⟩ := harr
      exact ⟨M, _, _, w', hM, u, hq, rfl, rfl, rfl, hdf, rfl, fn, hfn, hr⟩)
    (fun fl cl w ⟨u, _, h1, _, h2⟩ => ⟨fun ch h => (by rw [h2.1] at h; cases h), (by rw [h1]; simp)⟩)
  rw [hFs] at U
  refine (Go1.bind (fun s a => RS.refl a) (transfer (main := main) U) fun s g w ⟨ρ, fl, cl, wl, hA, u, hq, hcl, hfn, hlv⟩ => Go1.stop fun w₁ h₁ => ?_)
  subst hcl
  obtain ⟨fc, cc, rfl, hst⟩ := hA.st
  have hfr : FR ⟨P, ρ, Fs⟩ wl.heap.size [.code (.refuse "")] [.code (cut n c).2] fl fc ∧ cc = cs := by
    rcases hst.fr with ⟨h, _, h2⟩ | ⟨_, _, _, h⟩
    · exact ⟨h, h2⟩
    · exfalso
      cases h with
      | cons _ _ _ h => cases h
  obtain ⟨hfr, rfl⟩ := hfr
  obtain ⟨hm, hd, hk, fn, hfn1, hres⟩ := hlv
  have hmode : fc.mode = .returning := by
    rcases hfr.mode with ⟨h1, _⟩ | ⟨_, h2⟩
    · rw [hm] at h1; cases h1
    · exact h2
  have g1 := hf0
  have g5 := hres0
  have g1' : P.funcs[f]? = some fn0 := g1
  rw [hfn] at hfn1
  rw [g1'] at hfn1
  obtain rfl := Option.some.inj hfn1
  obtain ⟨e2, hout⟩ := ret_out (fun b hb h => (hal b hb h).1) hwrs hA hfr g5 hres h₁
  have hwr1 : WR ⟨P, ρ, Fs⟩ wl w₁ := hA.wr.rely fun c hc hca => by
    show w₁.heap[ρ.f c]? = w.heap[ρ.f c]?
    rcases Nat.lt_or_ge c v.heap.size with hb | hb
    · rw [hA.id c hb]
      rcases (hal c hb hca).1 with h | h
      · exact h₁.own c ((hA.mine c).2 (.inl h))
      · exact h₁.rd c h
    · exact h₁.own _ (hA.cover c hb hc)
  exact ⟨⟨ρ, fc, u, wl, rfl, hfr.fn.trans hfn, hmode, hfr.defc, hfr.kindc, ⟨fn0, g1', hout⟩, hq, e2, hA.id, hA.new, hwr1, hA.low, hA.mine⟩, h₁.tape.trans hA.tape, h₁.os.trans hA.os, h₁.output.trans hA.output, Nat.le_trans hA.size h₁.size, fun b hb => (h₁.rd b hb).trans (hA.rd b hb)⟩
end
/-! ### beside leavers: F is free, W of it is written -/
noncomputable abbrev fnsQ (fs : FuncId → Bool) (v : World) (F W : Nat → Prop) : Fns := fnsOf fs v (fun b => W b ∨ (F b ∧ ¬ W b)) W
section
variable {P : Program} {fs : FuncId → Bool} {v : World} {F W : Nat → Prop} {cs : List Frame}
theorem fnsQ_old {b : Nat} (h : b < v.heap.size) (hF : F b) (hp : plainO v.heap[b]? = true) : (fnsQ fs v F W).al b = true :=
  fnsOf_old (al := fun b => W b ∨ (F b ∧ ¬ W b)) h ((Classical.em (W b)).imp id fun hw => ⟨hF, hw⟩) hp
theorem fnsQ_ok {b : Nat} (hF : ∀ b, F b → b < v.heap.size) (h : F b) (hp : plainO v.heap[b]? = true) : Rel.inB (fnsQ fs v F W) v.heap.size b = true := by
  simp [Rel.inB, hF b h, fnsQ_old (fs := fs) (W := W) (hF b h) h hp]
theorem gl_cut {f : FuncId} {c : Code} {n : Nat} {a : Act} {Pre : Act → World → Prop} (hsub : ∀ b, W b → F b) (hF : ∀ b, F b → b < v.heap.size) (hz : ZeroOk P) (hG : P.globals.size ≤ v.heap.size) (hO : ∀ f, fs f = true → ∃ fn, P.funcs[f]? = some fn ∧ fnOk P fs fn = true)
    (hsp : spineOk P ⟨fs, fun _ => false, fun _ => false, fun _ => false⟩ n c = true) (hd : a.defers = []) (ha : ∀ x ∈ a.tmps, okV (fnsQ fs v F W) v.heap.size x = true) (hl : ∀ τ, Rel.Reach P n c Pre a { loneW (fnsQ fs v F W) v with tape := τ, drawn := 0 }) :
    GL P (fun t g w => ∃ s, t = (fun b => (F b ∧ ¬ W b) ∨ s b) ∧ ∃ ρ a' wl, g = G ((base f).at ⟨a'.tmps.map (ren ρ), []⟩ [.code (cut n c).2]) cs ∧ Pre a' wl ∧ (∀ x ∈ a'.tmps, okJ (fnsQ fs v F W) wl.heap.size x = true) ∧ Rel.Left P (fnsQ fs v F W) v (fun b => F b ∧ ¬ W b) W ρ wl s w) F (G ((base f).at a [.code c]) cs) v :=
  gl_of hsub (cut_company hz hG (fun ρ => by unfold fnsOf; exact fnsOk_of hO) (fun b hb => hF b (hsub b hb)) (fun b hb => ⟨hF b hb.1, hb.2⟩) (by unfold fnsOf; exact spine_mono n c hsp) hd ha hl)
theorem gl_ret {f : FuncId} {fn0 : Func} {c : Code} {n : Nat} {a : Act} {Q : Value → World → Prop} (hsub : ∀ b, W b → F b) (hF : ∀ b, F b → b < v.heap.size) (hz : ZeroOk P) (hG : P.globals.size ≤ v.heap.size) (hO : ∀ f, fs f = true → ∃ fn, P.funcs[f]? = some fn ∧ fnOk P fs fn = true)
    (hf0 : P.funcs[f]? = some fn0) (hres0 : fn0.results.all resOk = true) (hsp : spineOk P ⟨fs, fun _ => false, fun _ => false, fun _ => false⟩ n c = true) (hd : a.defers = []) (ha : ∀ x ∈ a.tmps, okV (fnsQ fs v F W) v.heap.size x = true) (hl : ∀ τ, Rets P f n c Q a { loneW (fnsQ fs v F W) v with tape := τ, drawn := 0 }) :
    GL P (fun t g w => ∃ s, t = (fun b => (F b ∧ ¬ W b) ∨ s b) ∧ RetC P (fnsQ fs v F W) v (fun b => F b ∧ ¬ W b) W f cs Q s g w) F (G ((base f).at a [.code c]) cs) v :=
  gl_of hsub (ret_company hz hG (fun ρ => by unfold fnsOf; exact fnsOk_of hO) (fun b hb => hF b (hsub b hb)) (fun b hb => ⟨hF b hb.1, hb.2⟩) hf0 hres0 (by unfold fnsOf; exact spine_mono n c hsp) hd ha hl)
theorem gl_end {f : FuncId} {fn0 : Func} {c : Code} {a : Act} {Q : Value → World → Prop} (hsub : ∀ b, W b → F b) (hF : ∀ b, F b → b < v.heap.size) (hz : ZeroOk P) (hG : P.globals.size ≤ v.heap.size) (hO : ∀ f, fs f = true → ∃ fn, P.funcs[f]? = some fn ∧ fnOk P fs fn = true)
    (hf0 : P.funcs[f]? = some fn0) (hres0 : fn0.results.all resOk = true) (hc : codeOk P ⟨fs, fun _ => false, fun _ => false, fun _ => false⟩ c = true) (hd : a.defers = []) (ha : ∀ x ∈ a.tmps, okV (fnsQ fs v F W) v.heap.size x = true) (hl : ∀ τ, Rel.Ends P f c Q a { loneW (fnsQ fs v F W) v with tape := τ, drawn := 0 }) :
    GL P (fun t g w => ∃ s, t = (fun b => (F b ∧ ¬ W b) ∨ s b) ∧ RetC P (fnsQ fs v F W) v (fun b => F b ∧ ¬ W b) W f cs Q s g w) F (G ((base f).at a [.code c]) cs) v :=
  gl_of hsub (end_company hz hG (fun ρ => by unfold fnsOf; exact fnsOk_of hO) (fun b hb => hF b (hsub b hb)) (fun b hb => ⟨hF b hb.1, hb.2⟩) hf0 hres0 (by unfold fnsOf; exact code_mono c hc) hd ha hl)
theorem gl_call {f : FuncId} {args : Array Value} {Q : Value → World → Prop} (hsub : ∀ b, W b → F b) (hF : ∀ b, F b → b < v.heap.size) (hz : ZeroOk P) (hG : P.globals.size ≤ v.heap.size) (hO : ∀ f, fs f = true → ∃ fn, P.funcs[f]? = some fn ∧ fnOk P fs fn = true)
    (hf : fs f = true) (ha : ∀ x ∈ args, okV (fnsQ fs v F W) v.heap.size x = true) (hl : ∀ τ, Calls P f args { loneW (fnsQ fs v F W) v with tape := τ, drawn := 0 } fun | .returned u, w => Q u w | _, _ => False) :
    GL P (fun t g w => ∃ s, t = (fun b => (F b ∧ ¬ W b) ∨ s b) ∧ RetC P (fnsQ fs v F W) v (fun b => F b ∧ ¬ W b) W f cs Q s g w) F (G (Frame.enter P f args .normal) cs) v :=
  gl_of hsub (call_company hz hG (fun ρ => by unfold fnsOf; exact fnsOk_of hO) (fun b hb => hF b (hsub b hb)) (fun b hb => ⟨hF b hb.1, hb.2⟩) hf ha hl)
end
section
variable {P : Program} {fs : FuncId → Bool} {v : World} {F W : Nat → Prop} {cs : List Frame} {f : FuncId} {Q : Value → World → Prop} {b₀ : Frame} {a₀ : Act} {ops₀ : Array Oper} {i₀ : Nat} {rest₀ : List Nat} {k₀ : List Item} {g : Goroutine} {w : World}
theorem fnsQ_al {b : Nat} (hsub : ∀ b, W b → F b) (hb : b < v.heap.size) (h : (fnsQ fs v F W).al b = true) : F b := by
  classical
  simp only [fnsQ, fnsOf, hb, if_true, Bool.and_eq_true, decide_eq_true_eq] at h
  exact h.1.elim (hsub b) (·.1)
theorem fnsQ_new {b : Nat} (h : v.heap.size ≤ b) : (fnsQ fs v F W).al b = true ∧ (fnsQ fs v F W).wr b = true := fnsOf_new h
theorem left_rs {s : Nat → Prop} {ρ : Rn} {wl w w₁ : World} (hsub : ∀ b, W b → F b) (h : Rel.Left P (fnsQ fs v F W) v (fun b => F b ∧ ¬ W b) W ρ wl s w) (r : RS No (fun b => (F b ∧ ¬ W b) ∨ s b) w w₁) : Rel.Left P (fnsQ fs v F W) v (fun b => F b ∧ ¬ W b) W ρ wl s w₁ :=
  left_relyB (Bd := fun _ => False) h (fun b hb ha _ => by
    have := fnsQ_al hsub hb ha
    by_cases hw : W b
    · exact .inl hw
    · exact .inr ⟨this, hw⟩) (fun b hb => by cases hb) ⟨⟨r.tape, r.os, r.output, r.size, fun y hy => r.own y (.inr hy), fun y hy => r.own y (.inl hy)⟩, fun _ h => h.elim⟩
/-- What a call leaves, back in its caller's frame. -/
def Back (P : Program) (fs : FuncId → Bool) (v : World) (F W : Nat → Prop) (Q : Value → World → Prop) (b₀ : Frame) (a₀ : Act) (d : Option Tmp) (k : List Item) (cs : List Frame) (t : Nat → Prop) (g : Goroutine) (w : World) : Prop :=
  ∃ s, t = (fun b => (F b ∧ ¬ W b) ∨ s b) ∧ ∃ ρ u wl, g = G (b₀.at (a₀.put d (ren ρ u)) k) cs ∧ Q u wl ∧ okJ (fnsQ fs v F W) wl.heap.size u = true ∧ Rel.Left P (fnsQ fs v F W) v (fun b => F b ∧ ¬ W b) W ρ wl s w
theorem gl_back (hsub : ∀ b, W b → F b)
    (h : GL P (fun t g w => ∃ s, t = (fun b => (F b ∧ ¬ W b) ∨ s b) ∧ RetC P (fnsQ fs v F W) v (fun b => F b ∧ ¬ W b) W f (b₀.at a₀ (.inRegion ops₀ (i₀ :: rest₀) :: k₀) :: cs) Q s g w) F g w) :
    GL P (Back P fs v F W Q b₀ a₀ ((ops₀[i₀]?).bind (·.dst)) (.inRegion ops₀ rest₀ :: k₀) cs) F g w := by
  refine Go1.bind (fun _ a => RS.refl a) h ?_
  rintro t g w ⟨s, rfl, hC⟩
  obtain ⟨ρ, fc, u, wl, rfl, hf, hm, hd, hk, ⟨fn, hfn, hres⟩, hq, hok, hid, hnew, hwr, hlow, hmine⟩ := hC.out
  have hL : Rel.Left P (fnsQ fs v F W) v (fun b => F b ∧ ¬ W b) W ρ wl s w := ⟨hid, hnew, hwr, hlow, hmine, hC.tape, hC.os, hC.output, hC.size, hC.rd⟩
  refine Go1.step rfl fun w₁ h₁ => ?_
  obtain ⟨es, hrun, hev⟩ := hres w₁ (fun b hb => h₁.own b (hb.elim .inr .inl))
  have hs := sg_leave (P := P) (main := true) (c := b₀.at a₀ (.inRegion ops₀ (i₀ :: rest₀) :: k₀)) (cs := cs) (w := w₁) hm hd hk (by rw [hf]; exact hfn) hrun
  rw [Frame.finish_at] at hs
  refine ⟨_, _, _, _, hs, ds_same ⟨rfl, fun e he => ?_⟩, Go1.stop fun w₂ h₂ => ⟨s, rfl, ρ, u, wl, rfl, hq, hok, left_rs hsub hL (h₁.trans h₂)⟩⟩
  rcases hev e (seen_sub he) with ⟨ad, l1, l2, l3⟩ | ⟨r, l1, l2, l3⟩ | l
  · exact .inl ⟨ad, l1, .inl (l2.elim .inr fun h => .inl h.1), l3⟩
  · exact .inr (.inl ⟨r, l1, .inl (l2.elim .inr .inl), l3⟩)
  · exact .inr (.inr l)
end
end Go.Proofs.Ytmmolicodlmlkaa.Ph
namespace Go.Proofs.Ytmmolicodlmlkaa.Ph
open Go.Conc Go.ConcN Go.RowKit
open Go.Proofs.Ytmmolicodlmlkaa.Rel
set_option linter.unusedVariables false
set_option linter.unusedSimpArgs false

theorem areWorkers_any (n : Int) (w : World) : Calls Try.prog 80 #[.int .i64 n] w fun e w' => e = .returned (.bool (Go.Proofs.Ytmmolicodlmlkaa.inB n 1 8)) ∧ w = w' := by
  go_enter Try.func80, Try.ntmps80
  go_wp2_with (go_at_call 97; refine (within_any _ _ _ _).mono ?_; rintro e w' ⟨rfl, rfl⟩)
  go_ret
  exact ⟨rfl, rfl⟩
noncomputable def bodyRS : Code := match Try.f24.body with | some c => c | _ => .skip
abbrev actRS (A : Option Addr) (n c : Nat) (A2 : Option Addr) (n2 c2 : Nat) (kw : Int) : Act :=
  ⟨#[.slice A n c, .slice A2 n2 c2, .int .i64 kw, undef, undef, undef, undef, undef, undef, undef, undef, undef, undef, undef, undef, undef, undef, undef, undef, undef, undef, undef, undef, undef, undef, undef, undef, undef, undef, undef, undef, undef, undef, undef, undef, undef], []⟩
/-- What stands at the call of sharedWork. -/
def PreRS (A : Option Addr) (c : Nat) (x : List Int) (A2 : Option Addr) (c2 : Nat) (sl : List Int) (kw : Int) (B : Nat) (a' : Act) (w' : World) : Prop :=
  ∃ bk bs bo C v9 v10 v11 v12 v13 v14 v15 v16 v17 v18 v19 v20 v21 v22 v23 v24 v25 v26 v27 v28 v29,
    a' = ⟨#[.slice A x.length c, .slice A2 sl.length c2, .int .i64 kw, ptrB bk, ptrB bs, undef, .slice none 0 0, .bool false, ptrB bo, v9, v10, v11, v12, v13, v14, v15, v16, v17, v18, v19, v20, v21, v22, v23, v24, v25, v26, v27, v28, v29, undef, undef, undef, undef, undef, undef], []⟩ ∧
    B ≤ bk ∧ B ≤ bs ∧ B ≤ bo ∧ B ≤ C ∧ bk ≠ C ∧ bs ≠ C ∧ bo ≠ C ∧
    w'.heap[bk]? = some (.cells #[.slice A x.length c] 22 (0, 0)) ∧ w'.heap[bs]? = some (.cells #[.slice A2 sl.length c2] 22 (0, 0)) ∧ w'.heap[bo]? = some (.cells #[.slice (some ⟨C, 0, none⟩) sl.length sl.length] 29 (0, 0)) ∧
    ∃ cs, w'.heap[C]? = some (.cells cs 22 (0, 0)) ∧ cs.size = sl.length
set_option maxRecDepth 100000 in
set_option maxHeartbeats 1600000 in
theorem rows_reach (A : Option Addr) (c : Nat) (x : List Int) (A2 : Option Addr) (c2 : Nat) (sl : List Int) (kw : Int) (w : World) (hx : RdL (Value.int .i64) w A x) (hs : RdL (Value.int .i64) w A2 sl) (hxn : x.length ≤ 1048576) (hsn : sl.length ≤ 1048576)
    (h1 : keysQ x = true) (h2 : sl.length ≤ 32) (h3 : allB sl 0 4294967295 = true) (h4 : Go.Proofs.Ytmmolicodlmlkaa.inB kw 1 8 = true) :
    Rel.Reach Try.prog 3 bodyRS (PreRS A c x A2 c2 sl kw w.heap.size) (actRS A x.length c A2 sl.length c2 kw) w := by
  have HX := hid hx
  have HS := hid hs
  have h2' : ¬ (sl.length : Int) > 32 := by omega
  have hmk := run_make_row' (P := Try.prog) 29 22 (.slice none 0 0) 24 Try.underlying29 (by kernel_rfl) rfl .i64 .i64 sl.length (by omega) (by omega)
  clear hx hs
  simp only [bodyRS, Try.f24]
  refine reach_seq ?_
  go_wp2
  have HX1 := hid (HX.out.below (below_a2 w (.cells #[.slice A x.length c] 22) (.cells #[.slice A2 sl.length c2] 22)))
  have HS1 := hid (HS.out.below (below_a2 w (.cells #[.slice A x.length c] 22) (.cells #[.slice A2 sl.length c2] 22)))
  refine reach_seq ?_
  go_wp2_with (first | (go_at_call 65; refine (AreKeys_q A c x _ HX1.out hxn).mono ?_; rw [h1]; rintro e w' ⟨rfl, rfl⟩) | (go_at_call 79; refine (areAllKeys_any A2 c2 sl _ HS1.out hsn).mono ?_; rw [h3]; rintro e w' ⟨rfl, rfl⟩) | (go_at_call 80; refine (areWorkers_any kw _).mono ?_; rw [h4]; rintro e w' ⟨rfl, rfl⟩))
  refine reach_seq ?_
  go_wp2
  refine reach_here ?_
  generalize ho1 : Obj.cells #[Value.slice A x.length c] 22 = o1
  generalize ho2 : Obj.cells #[Value.slice A2 sl.length c2] 22 = o2
  generalize ho3 : Obj.cells (madeCells #[Value.slice none 0 0] sl.length) 22 = o3
  generalize ho4 : Obj.cells #[Value.slice (some ⟨w.heap.size + 1 + 1, 0, none⟩) sl.length sl.length] 29 = o4
  have e1 : ((((w.alloc o1).alloc o2).alloc o3).alloc o4).heap[w.heap.size]? = some o1 := by
    rw [heap_alloc_old _ _ (by simp only [World.size_alloc]; omega), heap_alloc_old _ _ (by simp only [World.size_alloc]; omega), heap_alloc_old _ _ (by simp only [World.size_alloc]; omega), heap_alloc_new]
  have e2 : ((((w.alloc o1).alloc o2).alloc o3).alloc o4).heap[w.heap.size + 1]? = some o2 := by
    rw [heap_alloc_old _ _ (by simp only [World.size_alloc]; omega), heap_alloc_old _ _ (by simp only [World.size_alloc]; omega)]
    have := heap_alloc_new (w.alloc o1) o2
    simpa only [World.size_alloc] using this
  have e3 : ((((w.alloc o1).alloc o2).alloc o3).alloc o4).heap[w.heap.size + 1 + 1]? = some o3 := by
    rw [heap_alloc_old _ _ (by simp only [World.size_alloc]; omega)]
    have := heap_alloc_new ((w.alloc o1).alloc o2) o3
    simpa only [World.size_alloc] using this
  have e4 : ((((w.alloc o1).alloc o2).alloc o3).alloc o4).heap[w.heap.size + 1 + 1 + 1]? = some o4 := by
    have := heap_alloc_new (((w.alloc o1).alloc o2).alloc o3) o4
    simpa only [World.size_alloc] using this
  refine ⟨w.heap.size, w.heap.size + 1, w.heap.size + 1 + 1 + 1, w.heap.size + 1 + 1, _, _, _, _, _, _, _, _, _, _, _, _, _, _, _, _, _, _, _, _, _, rfl, by omega, by omega, by omega, by omega, by omega, by omega, by omega, ?_, ?_, ?_, madeCells #[Value.slice none 0 0] sl.length, ?_, ?_⟩
  · rw [e1, ← ho1]
  · rw [e2, ← ho2]
  · rw [e4, ← ho4]
  · rw [e3, ← ho3]
  · simp [size_madeCells]
/-- Is it worked on? -/
def gateRS (x sl : List Int) (kw : Int) : Bool := keysQ x && decide (sl.length ≤ 32) && allB sl 0 4294967295 && Go.Proofs.Ytmmolicodlmlkaa.inB kw 1 8
set_option maxRecDepth 100000 in
set_option maxHeartbeats 1600000 in
theorem rows_rets (A : Option Addr) (c : Nat) (x : List Int) (A2 : Option Addr) (c2 : Nat) (sl : List Int) (kw : Int) (w : World) (hx : RdL (Value.int .i64) w A x) (hs : RdL (Value.int .i64) w A2 sl) (hxn : x.length ≤ 1048576) (hsn : sl.length ≤ 1048576) (hg : gateRS x sl kw = false) :
    Rets Try.prog 24 2 bodyRS (fun u w' => u = .tuple #[.slice none 0 0, .bool false] ∧ Below w.heap.size w w') (actRS A x.length c A2 sl.length c2 kw) w := by
  have HX := hid hx
  have HS := hid hs
  clear hx hs
  simp only [Rets, bodyRS, Try.f24, cut]
  have HX1 := hid (HX.out.below (below_a2 w (.cells #[.slice A x.length c] 22) (.cells #[.slice A2 sl.length c2] 22)))
  have HS1 := hid (HS.out.below (below_a2 w (.cells #[.slice A x.length c] 22) (.cells #[.slice A2 sl.length c2] 22)))
  cases h1 : keysQ x with
  | false =>
    clear hg
    go_wp2_with (first | (go_at_call 65; refine (AreKeys_q A c x _ HX1.out hxn).mono ?_; rw [h1]; rintro e w' ⟨rfl, rfl⟩))
    exact ⟨.tuple #[.slice none 0 0, .bool false], results_tmp2 (t := 6) (u := 7) rfl _ _ _, rfl, below_a2 w _ _⟩
  | true =>
  cases h2 : decide (sl.length ≤ 32) with
  | false =>
    clear hg
    have h2' : (sl.length : Int) > 32 := by have := of_decide_eq_false h2; omega
    clear h2
    go_wp2_with (first | (go_at_call 65; refine (AreKeys_q A c x _ HX1.out hxn).mono ?_; rw [h1]; rintro e w' ⟨rfl, rfl⟩))
    exact ⟨.tuple #[.slice none 0 0, .bool false], results_tmp2 (t := 6) (u := 7) rfl _ _ _, rfl, below_a2 w _ _⟩
  | true =>
  have h2' : ¬ (sl.length : Int) > 32 := by have := of_decide_eq_true h2; omega
  cases h3 : allB sl 0 4294967295 with
  | false =>
    clear hg h2
    go_wp2_with (first | (go_at_call 65; refine (AreKeys_q A c x _ HX1.out hxn).mono ?_; rw [h1]; rintro e w' ⟨rfl, rfl⟩) | (go_at_call 79; refine (areAllKeys_any A2 c2 sl _ HS1.out hsn).mono ?_; rw [h3]; rintro e w' ⟨rfl, rfl⟩))
    exact ⟨.tuple #[.slice none 0 0, .bool false], results_tmp2 (t := 6) (u := 7) rfl _ _ _, rfl, below_a2 w _ _⟩
  | true =>
  cases h4 : Go.Proofs.Ytmmolicodlmlkaa.inB kw 1 8 with
  | false =>
    clear hg h2
    go_wp2_with (first | (go_at_call 65; refine (AreKeys_q A c x _ HX1.out hxn).mono ?_; rw [h1]; rintro e w' ⟨rfl, rfl⟩) | (go_at_call 79; refine (areAllKeys_any A2 c2 sl _ HS1.out hsn).mono ?_; rw [h3]; rintro e w' ⟨rfl, rfl⟩) | (go_at_call 80; refine (areWorkers_any kw _).mono ?_; rw [h4]; rintro e w' ⟨rfl, rfl⟩))
    exact ⟨.tuple #[.slice none 0 0, .bool false], results_tmp2 (t := 6) (u := 7) rfl _ _ _, rfl, below_a2 w _ _⟩
  | true => simp [gateRS, h1, h2, h3, h4] at hg
end Go.Proofs.Ytmmolicodlmlkaa.Ph
