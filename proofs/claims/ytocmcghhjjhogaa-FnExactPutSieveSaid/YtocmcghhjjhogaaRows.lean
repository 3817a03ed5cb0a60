/-
  No cell of these rows narrows 'for every input' (looked for: loops, veiled, ifaces, maps, wideKeys, modest, calm, conditions, laid).
  DERIVED. THE GIVEN ROWS OF THIS SEAT. 12 by the template 'for every input the law returns true; each argument reads behind the call as it read before'; 0 by the template 'total and deterministic' (their statements: YtocmcghhjjhogaaTotals.lean).
  GIVEN WITH THE SEED: the statements are not yours to turn. If you find one false, say at which input.
  Laid BY PROGRAM, IN A SANDBOX (cutbox-rows.mjs): the forced cells as the released guide's own fill.sh prints them over the translation aabf3e56ce381d4a… (all of the seat's roots in one cut). By AI agents, Wed Nov 11 2026. No macro, syntax, notation, axiom, sorry.
-/
import Derived.Test.YtocmcghhjjhogaaChecked
import GoSem.Claim
import GoSem.ClaimJoined
import GoSem.ClaimMapViews
import Derived.JoinedTies
import Derived.KernelRfl
namespace Go.Proofs.Ytocmcghhjjhogaa
/- THE CELL 'sum', in the pinned program and in every row, IS THE sha256 OF THE DUMP (.gsa) THAT YtocmcghhjjhogaaProg.lean LOADS. Nothing in Lean hashes anything: it is a label: what it is worth is what the hold of that sum in a sandbox is worth. -/
noncomputable def Try.pinned : Pinned := { name := "ytocmcghhjjhogaa", sum := "aabf3e56ce381d4a40a57d5f398a781275abae394a68ff9d22baaa1b787ef7af", checked := Try.checked }
namespace Rows
def none {H : Type} : Left H := { results := [], args := [] }

/-- 'laws.FnExactFalseShare': WHATEVER THE INPUT: true; the input reads as it did. -/
def fnExactFalseShareSpec : ChangeSpec := { name := "fnExactFalseShare", fn := fun _ => fun
  | [d] => { results := [.lit (.bool true)], args := [d] }
  | _ => none }
def fnExactFalseShareRow : OpenClaim := { program := "ytocmcghhjjhogaa", sum := "aabf3e56ce381d4a40a57d5f398a781275abae394a68ff9d22baaa1b787ef7af", func := "loop.example/g01347/laws.FnExactFalseShare", spec := "fnExactFalseShare", apart := false }
def FnExactFalseShareSaid : Prop := fnExactFalseShareRow.holds Try.pinned (OpenSpec.ofChange fnExactFalseShareSpec)

/-- ITS FALSE NEIGHBOUR: 'it returns false'. Refute it at one input. -/
def fnExactFalseShareWrong : ChangeSpec := { name := "fnExactFalseShare", fn := fun _ => fun
  | [d] => { results := [.lit (.bool false)], args := [d] }
  | _ => none }
def FnExactFalseShareWrongFalsely : Prop := fnExactFalseShareRow.holds Try.pinned (OpenSpec.ofChange fnExactFalseShareWrong)

/-- 'laws.FnExactCellsTotal': WHATEVER THE INPUT: true; the input reads as it did. -/
def fnExactCellsTotalSpec : ChangeSpec := { name := "fnExactCellsTotal", fn := fun _ => fun
  | [d] => { results := [.lit (.bool true)], args := [d] }
  | _ => none }
def fnExactCellsTotalRow : OpenClaim := { program := "ytocmcghhjjhogaa", sum := "aabf3e56ce381d4a40a57d5f398a781275abae394a68ff9d22baaa1b787ef7af", func := "loop.example/g01347/laws.FnExactCellsTotal", spec := "fnExactCellsTotal", unfollowed := true, recurses := true, apart := false }
def FnExactCellsTotalSaid : Prop := fnExactCellsTotalRow.holds Try.pinned (OpenSpec.ofChange fnExactCellsTotalSpec)

/-- ITS FALSE NEIGHBOUR: 'it returns false'. Refute it at one input. -/
def fnExactCellsTotalWrong : ChangeSpec := { name := "fnExactCellsTotal", fn := fun _ => fun
  | [d] => { results := [.lit (.bool false)], args := [d] }
  | _ => none }
def FnExactCellsTotalWrongFalsely : Prop := fnExactCellsTotalRow.holds Try.pinned (OpenSpec.ofChange fnExactCellsTotalWrong)

/-- 'laws.FnExactJoinSieves': WHATEVER THE INPUT: true; the input reads as it did. -/
def fnExactJoinSievesSpec : ChangeSpec := { name := "fnExactJoinSieves", fn := fun _ => fun
  | [d1, d2] => { results := [.lit (.bool true)], args := [d1, d2] }
  | _ => none }
def fnExactJoinSievesRow : OpenClaim := { program := "ytocmcghhjjhogaa", sum := "aabf3e56ce381d4a40a57d5f398a781275abae394a68ff9d22baaa1b787ef7af", func := "loop.example/g01347/laws.FnExactJoinSieves", spec := "fnExactJoinSieves", unfollowed := true, recurses := true, apart := false }
def FnExactJoinSievesSaid : Prop := fnExactJoinSievesRow.holds Try.pinned (OpenSpec.ofChange fnExactJoinSievesSpec)

/-- ITS FALSE NEIGHBOUR: 'it returns false'. Refute it at one input. -/
def fnExactJoinSievesWrong : ChangeSpec := { name := "fnExactJoinSieves", fn := fun _ => fun
  | [d1, d2] => { results := [.lit (.bool false)], args := [d1, d2] }
  | _ => none }
def FnExactJoinSievesWrongFalsely : Prop := fnExactJoinSievesRow.holds Try.pinned (OpenSpec.ofChange fnExactJoinSievesWrong)

/-- 'laws.FnExactMeetSieves': WHATEVER THE INPUT: true; the input reads as it did. -/
def fnExactMeetSievesSpec : ChangeSpec := { name := "fnExactMeetSieves", fn := fun _ => fun
  | [d1, d2] => { results := [.lit (.bool true)], args := [d1, d2] }
  | _ => none }
def fnExactMeetSievesRow : OpenClaim := { program := "ytocmcghhjjhogaa", sum := "aabf3e56ce381d4a40a57d5f398a781275abae394a68ff9d22baaa1b787ef7af", func := "loop.example/g01347/laws.FnExactMeetSieves", spec := "fnExactMeetSieves", unfollowed := true, recurses := true, apart := false }
def FnExactMeetSievesSaid : Prop := fnExactMeetSievesRow.holds Try.pinned (OpenSpec.ofChange fnExactMeetSievesSpec)

/-- ITS FALSE NEIGHBOUR: 'it returns false'. Refute it at one input. -/
def fnExactMeetSievesWrong : ChangeSpec := { name := "fnExactMeetSieves", fn := fun _ => fun
  | [d1, d2] => { results := [.lit (.bool false)], args := [d1, d2] }
  | _ => none }
def FnExactMeetSievesWrongFalsely : Prop := fnExactMeetSievesRow.holds Try.pinned (OpenSpec.ofChange fnExactMeetSievesWrong)

/-- 'laws.FnExactInSieve': WHATEVER THE INPUT: true; the input reads as it did. -/
def fnExactInSieveSpec : ChangeSpec := { name := "fnExactInSieve", fn := fun _ => fun
  | [d1, d2] => { results := [.lit (.bool true)], args := [d1, d2] }
  | _ => none }
def fnExactInSieveRow : OpenClaim := { program := "ytocmcghhjjhogaa", sum := "aabf3e56ce381d4a40a57d5f398a781275abae394a68ff9d22baaa1b787ef7af", func := "loop.example/g01347/laws.FnExactInSieve", spec := "fnExactInSieve", apart := false }
def FnExactInSieveSaid : Prop := fnExactInSieveRow.holds Try.pinned (OpenSpec.ofChange fnExactInSieveSpec)

/-- ITS FALSE NEIGHBOUR: 'it returns false'. Refute it at one input. -/
def fnExactInSieveWrong : ChangeSpec := { name := "fnExactInSieve", fn := fun _ => fun
  | [d1, d2] => { results := [.lit (.bool false)], args := [d1, d2] }
  | _ => none }
def FnExactInSieveWrongFalsely : Prop := fnExactInSieveRow.holds Try.pinned (OpenSpec.ofChange fnExactInSieveWrong)

/-- 'laws.FnExactCellsDot': WHATEVER THE INPUT: true; the input reads as it did. -/
def fnExactCellsDotSpec : ChangeSpec := { name := "fnExactCellsDot", fn := fun _ => fun
  | [d1, d2] => { results := [.lit (.bool true)], args := [d1, d2] }
  | _ => none }
def fnExactCellsDotRow : OpenClaim := { program := "ytocmcghhjjhogaa", sum := "aabf3e56ce381d4a40a57d5f398a781275abae394a68ff9d22baaa1b787ef7af", func := "loop.example/g01347/laws.FnExactCellsDot", spec := "fnExactCellsDot", unfollowed := true, recurses := true, apart := false }
def FnExactCellsDotSaid : Prop := fnExactCellsDotRow.holds Try.pinned (OpenSpec.ofChange fnExactCellsDotSpec)

/-- ITS FALSE NEIGHBOUR: 'it returns false'. Refute it at one input. -/
def fnExactCellsDotWrong : ChangeSpec := { name := "fnExactCellsDot", fn := fun _ => fun
  | [d1, d2] => { results := [.lit (.bool false)], args := [d1, d2] }
  | _ => none }
def FnExactCellsDotWrongFalsely : Prop := fnExactCellsDotRow.holds Try.pinned (OpenSpec.ofChange fnExactCellsDotWrong)

/-- 'laws.FnExactJoinZeros': WHATEVER THE INPUT: true; the input reads as it did. -/
def fnExactJoinZerosSpec : ChangeSpec := { name := "fnExactJoinZeros", fn := fun _ => fun
  | [d1, d2] => { results := [.lit (.bool true)], args := [d1, d2] }
  | _ => none }
def fnExactJoinZerosRow : OpenClaim := { program := "ytocmcghhjjhogaa", sum := "aabf3e56ce381d4a40a57d5f398a781275abae394a68ff9d22baaa1b787ef7af", func := "loop.example/g01347/laws.FnExactJoinZeros", spec := "fnExactJoinZeros", unfollowed := true, recurses := true, apart := false }
def FnExactJoinZerosSaid : Prop := fnExactJoinZerosRow.holds Try.pinned (OpenSpec.ofChange fnExactJoinZerosSpec)

/-- ITS FALSE NEIGHBOUR: 'it returns false'. Refute it at one input. -/
def fnExactJoinZerosWrong : ChangeSpec := { name := "fnExactJoinZeros", fn := fun _ => fun
  | [d1, d2] => { results := [.lit (.bool false)], args := [d1, d2] }
  | _ => none }
def FnExactJoinZerosWrongFalsely : Prop := fnExactJoinZerosRow.holds Try.pinned (OpenSpec.ofChange fnExactJoinZerosWrong)

/-- 'laws.FnExactInTally': WHATEVER THE INPUT: true; the input reads as it did. -/
def fnExactInTallySpec : ChangeSpec := { name := "fnExactInTally", fn := fun _ => fun
  | [d1, d2] => { results := [.lit (.bool true)], args := [d1, d2] }
  | _ => none }
def fnExactInTallyRow : OpenClaim := { program := "ytocmcghhjjhogaa", sum := "aabf3e56ce381d4a40a57d5f398a781275abae394a68ff9d22baaa1b787ef7af", func := "loop.example/g01347/laws.FnExactInTally", spec := "fnExactInTally", unfollowed := true, recurses := true, apart := false }
def FnExactInTallySaid : Prop := fnExactInTallyRow.holds Try.pinned (OpenSpec.ofChange fnExactInTallySpec)

/-- ITS FALSE NEIGHBOUR: 'it returns false'. Refute it at one input. -/
def fnExactInTallyWrong : ChangeSpec := { name := "fnExactInTally", fn := fun _ => fun
  | [d1, d2] => { results := [.lit (.bool false)], args := [d1, d2] }
  | _ => none }
def FnExactInTallyWrongFalsely : Prop := fnExactInTallyRow.holds Try.pinned (OpenSpec.ofChange fnExactInTallyWrong)

/-- 'laws.FnExactCellsAt': WHATEVER THE INPUT: true; the input reads as it did. -/
def fnExactCellsAtSpec : ChangeSpec := { name := "fnExactCellsAt", fn := fun _ => fun
  | [d1, d2] => { results := [.lit (.bool true)], args := [d1, d2] }
  | _ => none }
def fnExactCellsAtRow : OpenClaim := { program := "ytocmcghhjjhogaa", sum := "aabf3e56ce381d4a40a57d5f398a781275abae394a68ff9d22baaa1b787ef7af", func := "loop.example/g01347/laws.FnExactCellsAt", spec := "fnExactCellsAt", unfollowed := true, recurses := true, apart := false }
def FnExactCellsAtSaid : Prop := fnExactCellsAtRow.holds Try.pinned (OpenSpec.ofChange fnExactCellsAtSpec)

/-- ITS FALSE NEIGHBOUR: 'it returns false'. Refute it at one input. -/
def fnExactCellsAtWrong : ChangeSpec := { name := "fnExactCellsAt", fn := fun _ => fun
  | [d1, d2] => { results := [.lit (.bool false)], args := [d1, d2] }
  | _ => none }
def FnExactCellsAtWrongFalsely : Prop := fnExactCellsAtRow.holds Try.pinned (OpenSpec.ofChange fnExactCellsAtWrong)

/-- 'laws.FnExactPlacesOf': WHATEVER THE INPUT: true; the input reads as it did. -/
def fnExactPlacesOfSpec : ChangeSpec := { name := "fnExactPlacesOf", fn := fun _ => fun
  | [d1, d2] => { results := [.lit (.bool true)], args := [d1, d2] }
  | _ => none }
def fnExactPlacesOfRow : OpenClaim := { program := "ytocmcghhjjhogaa", sum := "aabf3e56ce381d4a40a57d5f398a781275abae394a68ff9d22baaa1b787ef7af", func := "loop.example/g01347/laws.FnExactPlacesOf", spec := "fnExactPlacesOf", unfollowed := true, recurses := true, apart := false }
def FnExactPlacesOfSaid : Prop := fnExactPlacesOfRow.holds Try.pinned (OpenSpec.ofChange fnExactPlacesOfSpec)

/-- ITS FALSE NEIGHBOUR: 'it returns false'. Refute it at one input. -/
def fnExactPlacesOfWrong : ChangeSpec := { name := "fnExactPlacesOf", fn := fun _ => fun
  | [d1, d2] => { results := [.lit (.bool false)], args := [d1, d2] }
  | _ => none }
def FnExactPlacesOfWrongFalsely : Prop := fnExactPlacesOfRow.holds Try.pinned (OpenSpec.ofChange fnExactPlacesOfWrong)

/-- 'laws.FnExactMergeCells': WHATEVER THE INPUT: true; the input reads as it did. -/
def fnExactMergeCellsSpec : ChangeSpec := { name := "fnExactMergeCells", fn := fun _ => fun
  | [d1, d2] => { results := [.lit (.bool true)], args := [d1, d2] }
  | _ => none }
def fnExactMergeCellsRow : OpenClaim := { program := "ytocmcghhjjhogaa", sum := "aabf3e56ce381d4a40a57d5f398a781275abae394a68ff9d22baaa1b787ef7af", func := "loop.example/g01347/laws.FnExactMergeCells", spec := "fnExactMergeCells", unfollowed := true, recurses := true, apart := false }
def FnExactMergeCellsSaid : Prop := fnExactMergeCellsRow.holds Try.pinned (OpenSpec.ofChange fnExactMergeCellsSpec)

/-- ITS FALSE NEIGHBOUR: 'it returns false'. Refute it at one input. -/
def fnExactMergeCellsWrong : ChangeSpec := { name := "fnExactMergeCells", fn := fun _ => fun
  | [d1, d2] => { results := [.lit (.bool false)], args := [d1, d2] }
  | _ => none }
def FnExactMergeCellsWrongFalsely : Prop := fnExactMergeCellsRow.holds Try.pinned (OpenSpec.ofChange fnExactMergeCellsWrong)

/-- 'laws.FnExactPutSieve': WHATEVER THE INPUT: true; the input reads as it did. -/
def fnExactPutSieveSpec : ChangeSpec := { name := "fnExactPutSieve", fn := fun _ => fun
  | [d1, d2] => { results := [.lit (.bool true)], args := [d1, d2] }
  | _ => none }
def fnExactPutSieveRow : OpenClaim := { program := "ytocmcghhjjhogaa", sum := "aabf3e56ce381d4a40a57d5f398a781275abae394a68ff9d22baaa1b787ef7af", func := "loop.example/g01347/laws.FnExactPutSieve", spec := "fnExactPutSieve", unfollowed := true, recurses := true, apart := false }
def FnExactPutSieveSaid : Prop := fnExactPutSieveRow.holds Try.pinned (OpenSpec.ofChange fnExactPutSieveSpec)

/-- ITS FALSE NEIGHBOUR: 'it returns false'. Refute it at one input. -/
def fnExactPutSieveWrong : ChangeSpec := { name := "fnExactPutSieve", fn := fun _ => fun
  | [d1, d2] => { results := [.lit (.bool false)], args := [d1, d2] }
  | _ => none }
def FnExactPutSieveWrongFalsely : Prop := fnExactPutSieveRow.holds Try.pinned (OpenSpec.ofChange fnExactPutSieveWrong)

/- THE SECOND FORM. 'bulk': how many values and letters a reading holds, each counted each time it is reached (what is shared counts as often as it is met; a slice's spare places count too). A statement '..UptoSaid' is the law's where the arguments, and the package variables that the reading takes, are together of bulk at most 1048576: NARROWER than '..Said'. Prove '..Said' where nothing that the law and all that it calls make is longer than what came in: it says more and counts as full. Else prove '..UptoSaid'. A law counts once. -/
mutual
def uptoBulk {H : Type} : DataW H → Nat
  | .lit (.string bytes) => bytes.length + 1
  | .lit _ => 1
  | .nil => 1
  | .ptr d => uptoBulk d + 1
  | .slice elems spare => uptoBulkAll elems + uptoBulkAll spare + 1
  | .agg parts => uptoBulkAll parts + 1
  | .iface _ d => uptoBulk d + 1
  | .map entries => uptoBulkEntries entries + 1
  | .held _ => 1
def uptoBulkAll {H : Type} : List (DataW H) → Nat
  | [] => 0
  | d :: r => uptoBulk d + uptoBulkAll r
def uptoBulkEntries {H : Type} : List (Lit × DataW H) → Nat
  | [] => 0
  | x :: r => uptoBulkEntry x + uptoBulkEntries r
def uptoBulkEntry {H : Type} : Lit × DataW H → Nat
  | (.string bytes, d) => bytes.length + uptoBulk d + 1
  | (_, d) => uptoBulk d + 1
 end
def uptoSmall : (H : Type) → List (DataW H) → Bool := fun _ ds => decide (uptoBulkAll ds ≤ 1048576)
def OpenSpec.upto (s : _root_.Go.ChangeSpec) : _root_.Go.OpenSpec := { _root_.Go.OpenSpec.ofChange s with cond := some uptoSmall }

/-- 'laws.FnExactFalseShare', WHERE WHAT IT READS IS OF BULK AT MOST 1048576: true; the input reads as it did. -/
def fnExactFalseShareUptoRow : OpenClaim := { program := "ytocmcghhjjhogaa", sum := "aabf3e56ce381d4a40a57d5f398a781275abae394a68ff9d22baaa1b787ef7af", func := "loop.example/g01347/laws.FnExactFalseShare", spec := "fnExactFalseShare", apart := false, narrowed := true }
def FnExactFalseShareUptoSaid : Prop := fnExactFalseShareUptoRow.holds Try.pinned (OpenSpec.upto fnExactFalseShareSpec)

/-- 'laws.FnExactCellsTotal', WHERE WHAT IT READS IS OF BULK AT MOST 1048576: true; the input reads as it did. -/
def fnExactCellsTotalUptoRow : OpenClaim := { program := "ytocmcghhjjhogaa", sum := "aabf3e56ce381d4a40a57d5f398a781275abae394a68ff9d22baaa1b787ef7af", func := "loop.example/g01347/laws.FnExactCellsTotal", spec := "fnExactCellsTotal", unfollowed := true, recurses := true, apart := false, narrowed := true }
def FnExactCellsTotalUptoSaid : Prop := fnExactCellsTotalUptoRow.holds Try.pinned (OpenSpec.upto fnExactCellsTotalSpec)

/-- 'laws.FnExactJoinSieves', WHERE WHAT IT READS IS OF BULK AT MOST 1048576: true; the input reads as it did. -/
def fnExactJoinSievesUptoRow : OpenClaim := { program := "ytocmcghhjjhogaa", sum := "aabf3e56ce381d4a40a57d5f398a781275abae394a68ff9d22baaa1b787ef7af", func := "loop.example/g01347/laws.FnExactJoinSieves", spec := "fnExactJoinSieves", unfollowed := true, recurses := true, apart := false, narrowed := true }
def FnExactJoinSievesUptoSaid : Prop := fnExactJoinSievesUptoRow.holds Try.pinned (OpenSpec.upto fnExactJoinSievesSpec)

/-- 'laws.FnExactMeetSieves', WHERE WHAT IT READS IS OF BULK AT MOST 1048576: true; the input reads as it did. -/
def fnExactMeetSievesUptoRow : OpenClaim := { program := "ytocmcghhjjhogaa", sum := "aabf3e56ce381d4a40a57d5f398a781275abae394a68ff9d22baaa1b787ef7af", func := "loop.example/g01347/laws.FnExactMeetSieves", spec := "fnExactMeetSieves", unfollowed := true, recurses := true, apart := false, narrowed := true }
def FnExactMeetSievesUptoSaid : Prop := fnExactMeetSievesUptoRow.holds Try.pinned (OpenSpec.upto fnExactMeetSievesSpec)

/-- 'laws.FnExactInSieve', WHERE WHAT IT READS IS OF BULK AT MOST 1048576: true; the input reads as it did. -/
def fnExactInSieveUptoRow : OpenClaim := { program := "ytocmcghhjjhogaa", sum := "aabf3e56ce381d4a40a57d5f398a781275abae394a68ff9d22baaa1b787ef7af", func := "loop.example/g01347/laws.FnExactInSieve", spec := "fnExactInSieve", apart := false, narrowed := true }
def FnExactInSieveUptoSaid : Prop := fnExactInSieveUptoRow.holds Try.pinned (OpenSpec.upto fnExactInSieveSpec)

/-- 'laws.FnExactCellsDot', WHERE WHAT IT READS IS OF BULK AT MOST 1048576: true; the input reads as it did. -/
def fnExactCellsDotUptoRow : OpenClaim := { program := "ytocmcghhjjhogaa", sum := "aabf3e56ce381d4a40a57d5f398a781275abae394a68ff9d22baaa1b787ef7af", func := "loop.example/g01347/laws.FnExactCellsDot", spec := "fnExactCellsDot", unfollowed := true, recurses := true, apart := false, narrowed := true }
def FnExactCellsDotUptoSaid : Prop := fnExactCellsDotUptoRow.holds Try.pinned (OpenSpec.upto fnExactCellsDotSpec)

/-- 'laws.FnExactJoinZeros', WHERE WHAT IT READS IS OF BULK AT MOST 1048576: true; the input reads as it did. -/
def fnExactJoinZerosUptoRow : OpenClaim := { program := "ytocmcghhjjhogaa", sum := "aabf3e56ce381d4a40a57d5f398a781275abae394a68ff9d22baaa1b787ef7af", func := "loop.example/g01347/laws.FnExactJoinZeros", spec := "fnExactJoinZeros", unfollowed := true, recurses := true, apart := false, narrowed := true }
def FnExactJoinZerosUptoSaid : Prop := fnExactJoinZerosUptoRow.holds Try.pinned (OpenSpec.upto fnExactJoinZerosSpec)

/-- 'laws.FnExactInTally', WHERE WHAT IT READS IS OF BULK AT MOST 1048576: true; the input reads as it did. -/
def fnExactInTallyUptoRow : OpenClaim := { program := "ytocmcghhjjhogaa", sum := "aabf3e56ce381d4a40a57d5f398a781275abae394a68ff9d22baaa1b787ef7af", func := "loop.example/g01347/laws.FnExactInTally", spec := "fnExactInTally", unfollowed := true, recurses := true, apart := false, narrowed := true }
def FnExactInTallyUptoSaid : Prop := fnExactInTallyUptoRow.holds Try.pinned (OpenSpec.upto fnExactInTallySpec)

/-- 'laws.FnExactCellsAt', WHERE WHAT IT READS IS OF BULK AT MOST 1048576: true; the input reads as it did. -/
def fnExactCellsAtUptoRow : OpenClaim := { program := "ytocmcghhjjhogaa", sum := "aabf3e56ce381d4a40a57d5f398a781275abae394a68ff9d22baaa1b787ef7af", func := "loop.example/g01347/laws.FnExactCellsAt", spec := "fnExactCellsAt", unfollowed := true, recurses := true, apart := false, narrowed := true }
def FnExactCellsAtUptoSaid : Prop := fnExactCellsAtUptoRow.holds Try.pinned (OpenSpec.upto fnExactCellsAtSpec)

/-- 'laws.FnExactPlacesOf', WHERE WHAT IT READS IS OF BULK AT MOST 1048576: true; the input reads as it did. -/
def fnExactPlacesOfUptoRow : OpenClaim := { program := "ytocmcghhjjhogaa", sum := "aabf3e56ce381d4a40a57d5f398a781275abae394a68ff9d22baaa1b787ef7af", func := "loop.example/g01347/laws.FnExactPlacesOf", spec := "fnExactPlacesOf", unfollowed := true, recurses := true, apart := false, narrowed := true }
def FnExactPlacesOfUptoSaid : Prop := fnExactPlacesOfUptoRow.holds Try.pinned (OpenSpec.upto fnExactPlacesOfSpec)

/-- 'laws.FnExactMergeCells', WHERE WHAT IT READS IS OF BULK AT MOST 1048576: true; the input reads as it did. -/
def fnExactMergeCellsUptoRow : OpenClaim := { program := "ytocmcghhjjhogaa", sum := "aabf3e56ce381d4a40a57d5f398a781275abae394a68ff9d22baaa1b787ef7af", func := "loop.example/g01347/laws.FnExactMergeCells", spec := "fnExactMergeCells", unfollowed := true, recurses := true, apart := false, narrowed := true }
def FnExactMergeCellsUptoSaid : Prop := fnExactMergeCellsUptoRow.holds Try.pinned (OpenSpec.upto fnExactMergeCellsSpec)

/-- 'laws.FnExactPutSieve', WHERE WHAT IT READS IS OF BULK AT MOST 1048576: true; the input reads as it did. -/
def fnExactPutSieveUptoRow : OpenClaim := { program := "ytocmcghhjjhogaa", sum := "aabf3e56ce381d4a40a57d5f398a781275abae394a68ff9d22baaa1b787ef7af", func := "loop.example/g01347/laws.FnExactPutSieve", spec := "fnExactPutSieve", unfollowed := true, recurses := true, apart := false, narrowed := true }
def FnExactPutSieveUptoSaid : Prop := fnExactPutSieveUptoRow.holds Try.pinned (OpenSpec.upto fnExactPutSieveSpec)

end Rows
end Go.Proofs.Ytocmcghhjjhogaa
