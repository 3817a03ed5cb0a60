/-
  Putting keys into a sieve: reference and program, by contracts.
-/
import Derived.Test.YtbodfepfapjikaaOwn
import Derived.Test.YtbodfepfapjikaaInSieve
import Derived.Test.YtbodfepfapjikaaWithin
import Derived.Deep.CutRange
namespace Go.Proofs.Ytbodfepfapjikaa
open Go.RowKit
set_option linter.unusedVariables false

/-- The bits at all listed places become true. -/
def putAt (x : List Bool) (l : List Int) : List Bool := l.foldl (fun x p => x.set p.toNat true) x
theorem putAt_length (x : List Bool) (l : List Int) : (putAt x l).length = x.length := by
  unfold putAt
  induction l generalizing x with
  | nil => rfl
  | cons a l ih => rw [List.foldl_cons, ih]; simp
theorem putAt_zero (x : List Bool) (l : List Int) : putAt x (l.take 0) = x := by simp [putAt]
theorem putAt_succ {x : List Bool} {l : List Int} {k m : Nat} (h : Hid (l[k]? = some (m : Int))) : (putAt x (l.take k)).set m true = putAt x (l.take (k + 1)) := by
  unfold putAt
  rw [List.take_add_one, h.out, List.foldl_append]
  simp
/-- All keys' places. -/
def putKeys (x : List Bool) (s n r : Nat) (keys : List Int) : List Bool := keys.foldl (fun x key => putAt x (spotsL key.toNat s n r)) x
theorem putKeys_length (x : List Bool) (s n r : Nat) (keys : List Int) : (putKeys x s n r keys).length = x.length := by
  unfold putKeys
  induction keys generalizing x with
  | nil => rfl
  | cons a l ih => rw [List.foldl_cons, ih, putAt_length]
theorem putKeys_succ {x : List Bool} {s n r k key : Nat} {keys : List Int} (h : Hid (keys[k]? = some (key : Int))) : putAt (putKeys x s n r (keys.take k)) (spotsL key s n r) = putKeys x s n r (keys.take (k + 1)) := by
  unfold putKeys
  rw [List.take_add_one, h.out, List.foldl_append]
  simp
/-- What PutSieve returns. -/
def pPutSieve (r s : Int) (x : List Bool) (key : Int) : (Int × Int × List Bool) × Bool :=
  if vSieve r s x.length = true ∧ inB key 0 4294967295 = true then ((r, s, putAt x (spotsL key.toNat s.toNat x.length r.toNat)), true) else ((0, 0, []), false)

theorem TouchAll.of_below {w w' : World} (h : Below w.heap.size w w') (l : List (Option Addr × Nat)) : TouchAll w w' l := ⟨h.os, h.tape, h.output, h.size, fun b hb _ => h.block b hb⟩
theorem TouchAll.below1 {w w' : World} {g n B : Nat} (h : TouchAll w w' [(some ⟨g, 0, none⟩, n)]) (hB : B ≤ w.heap.size) (hg : B ≤ g) : Below B w w' :=
  ⟨h.os, h.tape, h.output, h.size, fun k hk => h.block k (by omega) fun p hp => by
    simp at hp; subst hp
    exact .inr fun o e => by injection e with e; injection e with e; omega⟩
theorem Blk.touch {w w' : World} {q g n : Nat} {t : TypeId} {cs : List Value} (h : Blk w q t cs) (k : Touch w w' (some ⟨g, 0, none⟩) n) (hq : g ≠ q) : Blk w' q t cs :=
  (k.block q (.inr fun o e => by injection e with e; injection e with e; exact hq e)).trans h
theorem TouchAll.trans1 {w w' w'' : World} {A : Option Addr} {n : Nat} (h : TouchAll w w' [(A, n)]) (k : TouchAll w' w'' [(A, n)]) : TouchAll w w'' [(A, n)] :=
  ⟨k.os.trans h.os, k.tape.trans h.tape, k.output.trans h.output, Nat.le_trans h.size k.size, fun b hb hp => (k.block b (Nat.lt_of_lt_of_le hb h.size) hp).trans (h.block b hb hp)⟩

/-- It hands back a sieve of its own, and whether it could. -/
def RetSv (w : World) (p : (Int × Int × List Bool) × Bool) (e : Ending) (w' : World) : Prop := ∃ A c,
  e = .returned (.tuple #[.agg #[.int .i64 p.1.1, .int .i64 p.1.2.1, .slice A p.1.2.2.length c], .bool p.2]) ∧ OwnS Value.bool w' w.heap.size 4 A p.1.2.2 ∧ p.1.2.2.length ≤ 1048576 ∧ Below w.heap.size w w'
theorem retSv_no {w : World} : ∀ (e : Ending) (w' : World), (e = .returned (.tuple #[.agg #[.int .i64 0, .int .i64 0, .slice none 0 0], .bool false]) ∧ Below w.heap.size w w') → RetSv w ((0, 0, []), false) e w' :=
  fun e w' ⟨he, hb⟩ => ⟨none, 0, he, OwnS.nil, by simp, hb⟩
theorem AreKeys_any (A : Option Addr) (c : Nat) (xs : List Int) (w : World) (hx : RdL (Value.int .i64) w A xs) (hn : xs.length ≤ 1048576) :
    Calls Try.prog 62 #[.slice A xs.length c] w fun e w' => e = .returned (.bool (decide ((xs.length : Int) ≤ 256) && allB xs 0 4294967295)) ∧ w = w' := by
  have HX := hid hx
  clear hx
  by_cases h : (xs.length : Int) ≤ 256
  · go_enter Try.func62, Try.ntmps62
    go_wp2_with fail
    refine (areAllKeys_any A c xs _ HX.out hn).mono ?_
    rintro e w' ⟨rfl, rfl⟩
    go_wp2
    go_ret
    exact ⟨by simp [h], rfl⟩
  · go_enter Try.func62, Try.ntmps62
    go_wp2
    go_ret
    exact ⟨by simp; omega, rfl⟩
/-- What SieveOf returns. -/
def pSieveOf (r s : Int) (x : List Bool) (keys : List Int) : (Int × Int × List Bool) × Bool :=
  if vSieve r s x.length = true ∧ (decide ((keys.length : Int) ≤ 256) && allB keys 0 4294967295) = true then ((r, s, putKeys x s.toNat x.length r.toNat keys), true) else ((0, 0, []), false)
theorem pSieveOf_one (r s : Int) (x : List Bool) (key : Int) : pSieveOf r s x [key] = pPutSieve r s x key := by
  simp [pSieveOf, pPutSieve, putKeys, allB]
end Go.Proofs.Ytbodfepfapjikaa
