/-
  Copies of the call's own: slices.Clone, and the reference's l04Own, by contracts.
-/
import Derived.Test.YtbodfepfapjikaaCellPlace
import Derived.Lib.SliceRun
namespace Go.Proofs.Ytbodfepfapjikaa
open Go.RowKit
set_option linter.unusedVariables false

theorem rd_news {α : Type} {f : α → Value} {w : World} {ad : Addr} {x : List α} (h : RdL f w (some ad) x) : ∀ j u, (x.map f)[j]? = some u → w.cell? (ad.add j) = some u := fun j u hu => by
  rw [List.getElem?_map] at hu
  by_cases hj : j < x.length
  · obtain ⟨b, o, hA, hc⟩ := h j hj
    injection hA with hA
    subst hA
    rw [List.getElem?_eq_getElem hj] at hu
    have : (⟨b, o, none⟩ : Addr).add j = ⟨b, o + j, none⟩ := by unfold Addr.add; split <;> simp_all
    rw [this, hc]
    simpa using hu
  · rw [List.getElem?_eq_none (by omega)] at hu
    cases hu
theorem rd_none {α : Type} {f : α → Value} {w : World} {x : List α} (h : RdL f w none x) : x = [] := by
  rcases x with _ | ⟨a, x⟩
  · rfl
  · obtain ⟨b, o, hA, _⟩ := h 0 (by simp)
    cases hA

theorem Try.infoB : (Try.prog.info? 4).map (fun i => (i.zero, i.size, i.bytes)) = some (some (.bool false), 1, 1) := by kernel_rfl
theorem OwnS.setFar {α : Type} {f : α → Value} {w : World} {B : Nat} {t : TypeId} {A : Option Addr} {xs : List α} (h : OwnS f w B t A xs) {p : Addr} (hp : p.block < B) (u : Value) : OwnS f (w.setCell p u) B t A xs := fun hn => by
  obtain ⟨g, ex, hA, hB, hb⟩ := h hn
  exact ⟨g, ex, hA, hB, hb.far (by omega) u⟩
theorem ownS_lit {α : Type} {f : α → Value} {w : World} {B : Nat} {e : TypeId} {g c n : Nat} {l : List Value} {xs : List α} (h : w.ownsRow B e 1 (.slice (some ⟨g, 0, none⟩) n c) n l) (hl : l = xs.map f) (hn : xs.length = n) : OwnS f w B e (some ⟨g, 0, none⟩) xs := by
  subst hl
  obtain ⟨A, c', hv, ho⟩ := ownS_of_row h hn
  injection hv with h1
  rw [h1]; exact ho
set_option maxRecDepth 100000 in
set_option maxHeartbeats 800000 in
theorem cloneI_any (A : Option Addr) (c : Nat) (x : List Int) (w : World) (hx : RdL (Value.int .i64) w A x) (hn : x.length ≤ 1048576) :
    Calls Try.prog 63 #[.slice A x.length c] w (RetL (Value.int .i64) 2 w x) := by
  obtain ⟨i0, hi0, hz0, hz1, hz2⟩ := info_parts Try.infoI
  have q22 : ∀ (w : World) (a : Option Addr) (n c n' c' : Nat), (binOp .eql 22 (.slice a n c) (.slice none n' c')).run Try.prog w = .ok (.bool a.isNone) w := fun w a n c n' c' => Lib.run_eql_slice_nil w _ _ a n c n' c' Try.underlying22
  cases A with
  | none =>
    obtain rfl := rd_none hx
    go_enter Try.func63, Try.ntmps63
    go_wp2
    go_ret
    exact ⟨none, 0, rfl, OwnS.nil, Below.refl _ _⟩
  | some ad =>
    have HX := hid hx
    clear hx
    go_enter Try.func63, Try.ntmps63
    go_wp2_with (at_builtin; refine wpList_append_own _ rfl _ _ 22 rfl w.heap.size 2 i0 (.int .i64 0) 1 8 Try.underlying22 hi0 hz0 hz1 hz2 rfl (by decide) _ 0 [] rfl (World.ownsRow_made w #[] 0 (Nat.le_refl _) (Nat.zero_le _) rfl) ad x.length c (x.map (Value.int .i64)) rfl ?c1 (rd_news (HX.out.below (below_a1 _ _))) ?c2 ?c3 ?c4 ?c5 ?_)
    case c1 => simp
    case c2 => intro u hu; obtain ⟨y, _, rfl⟩ := List.mem_map.1 hu; rfl
    case c3 => simp only [maxLen]; omega
    case c4 => omega
    case c5 => simp
    intro v' w1 hown' hgrow _
    have O1 := hid hown'
    have W1 : Hid (Below w.heap.size w w1) := ((Below.refl _ w).alloc (Nat.le_refl _) _).grown hgrow (by simp) (by intro k hk; simp [Value.ownBlock] at hk; omega)
    clear hown' hgrow
    go_wp2
    go_ret
    obtain ⟨A', c', hv, ho⟩ := ownS_of_row (f := (Value.int .i64)) (xs := x) (n := 0 + x.length) (by simpa using O1.out) (by simp)
    exact ⟨A', c', congrArg Ending.returned hv, ho, W1.out⟩
end Go.Proofs.Ytbodfepfapjikaa
