/-
  Joined and met sieves: reference and program, by contracts.
-/
import Derived.Test.YtlcpchpodcchlaaOwn
import Derived.Test.YtlcpchpodcchlaaSieve
namespace Go.Proofs.Ytlcpchpodcchlaa
open Go.RowKit
set_option linter.unusedVariables false

/-- Two sieves are valid and have equal sizes. -/
def alikeS (r s : Int) (n : Nat) (r' s' : Int) (n' : Nat) : Bool := vSieve r s n && vSieve r' s' n' && (r == r') && (s == s') && ((n : Int) == (n' : Int))
/-- What JoinSieves and MeetSieves return. -/
def pBoth (f : Bool → Bool → Bool) (r s : Int) (x : List Bool) (r' s' : Int) (y : List Bool) : (Int × Int × List Bool) × Bool :=
  if alikeS r s x.length r' s' y.length = true then ((r, s, List.zipWith f x y), true) else ((0, 0, []), false)

set_option maxRecDepth 100000 in
set_option maxHeartbeats 3200000 in
theorem l04Alike_any (p p' n n' c c' : Nat) (A A' : Option Addr) (r s r' s' : Int) (w : World) (h0 : w.cell? ⟨p, 0, none⟩ = some (.int .i64 r)) (h1 : w.cell? ⟨p, 1, none⟩ = some (.int .i64 s)) (h2 : w.cell? ⟨p, 2, none⟩ = some (.slice A n c))
    (g0 : w.cell? ⟨p', 0, none⟩ = some (.int .i64 r')) (g1 : w.cell? ⟨p', 1, none⟩ = some (.int .i64 s')) (g2 : w.cell? ⟨p', 2, none⟩ = some (.slice A' n' c')) :
    Calls Try.prog 84 #[.pointer (some ⟨p, 0, none⟩), .pointer (some ⟨p', 0, none⟩)] w fun e w' => e = .returned (.bool (alikeS r s n r' s' n')) ∧ ∃ m, w' = w.drewN m := by
  have key : ∀ a b u v z : Bool, vSieve r s n = a → vSieve r' s' n' = b → (r == r') = u → (s == s') = v → ((n : Int) == (n' : Int)) = z →
      Calls Try.prog 84 #[.pointer (some ⟨p, 0, none⟩), .pointer (some ⟨p', 0, none⟩)] w fun e w' => e = .returned (.bool (a && b && u && v && z)) ∧ ∃ m, w' = w.drewN m := by
    intro a b u v z ha hb hu hv hz
    have H : Hid ((∀ k, Calls Try.prog 78 #[.pointer (some ⟨p, 0, none⟩)] (w.drewN k) fun e w' => e = .returned (.bool a) ∧ w' = w.drewN k) ∧ (∀ k, Calls Try.prog 78 #[.pointer (some ⟨p', 0, none⟩)] (w.drewN k) fun e w' => e = .returned (.bool b) ∧ w' = w.drewN k)) :=
      ⟨fun k => ha ▸ (l04Is_any p 0 n c A r s (w.drewN k) h0 h1 h2).mono fun _ _ ⟨h, h'⟩ => ⟨h, h'.symm⟩, fun k => hb ▸ (l04Is_any p' 0 n' c' A' r' s' (w.drewN k) g0 g1 g2).mono fun _ _ ⟨h, h'⟩ => ⟨h, h'.symm⟩⟩
    clear ha hb
    cases a
    case' true =>
      cases b
      case' true =>
        cases u
        case' true =>
          cases v
          case' true => cases z
    all_goals
      go_enter Try.func84, Try.ntmps84
      go_wp2
      go_quiet ((go_at_call 78; first | with_reducible exact Calls.quiet_of_same (H.out.1 _) | with_reducible exact Calls.quiet_of_same (H.out.2 _)))
      go_wp2
      go_ret
      exact ⟨by simp, _, rfl⟩
  exact key _ _ _ _ _ rfl rfl rfl rfl rfl
end Go.Proofs.Ytlcpchpodcchlaa
