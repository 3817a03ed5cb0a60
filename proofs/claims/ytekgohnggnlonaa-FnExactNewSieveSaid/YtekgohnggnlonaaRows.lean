/-
  No cell of these rows narrows 'for every input' (looked for: loops, veiled, ifaces, maps, wideKeys, modest, calm, conditions, laid).
  DERIVED. THE GIVEN ROWS OF THIS SEAT. 12 by the template 'for every input the law returns true; each argument reads behind the call as it read before'; 0 by the template 'total and deterministic' (their statements: YtekgohnggnlonaaTotals.lean).
  GIVEN WITH THE SEED: the statements are not yours to turn. If you find one false, say at which input.
  Laid BY PROGRAM, IN A SANDBOX (cutbox-rows.mjs): the forced cells as the released guide's own fill.sh prints them over the translation 56ac130344e9931c… (all of the seat's roots in one cut). By AI agents, Wed Nov 11 2026. No macro, syntax, notation, axiom, sorry.
-/
import Derived.Test.YtekgohnggnlonaaChecked
import GoSem.Claim
import GoSem.ClaimJoined
import GoSem.ClaimMapViews
import Derived.JoinedTies
import Derived.KernelRfl
namespace Go.Proofs.Ytekgohnggnlonaa
/- THE CELL 'sum', in the pinned program and in every row, IS THE sha256 OF THE DUMP (.gsa) THAT YtekgohnggnlonaaProg.lean LOADS. Nothing in Lean hashes anything: it is a label: what it is worth is what the hold of that sum in a sandbox is worth. -/
noncomputable def Try.pinned : Pinned := { name := "ytekgohnggnlonaa", sum := "56ac130344e9931c8863fc055577380cf12d95e3bd91bba96ea7860de7d25254", checked := Try.checked }
namespace Rows
def none {H : Type} : Left H := { results := [], args := [] }

/-- 'laws.FnExactValidSieve': WHATEVER THE INPUT: true; the input reads as it did. -/
def fnExactValidSieveSpec : ChangeSpec := { name := "fnExactValidSieve", fn := fun _ => fun
  | [d] => { results := [.lit (.bool true)], args := [d] }
  | _ => none }
def fnExactValidSieveRow : OpenClaim := { program := "ytekgohnggnlonaa", sum := "56ac130344e9931c8863fc055577380cf12d95e3bd91bba96ea7860de7d25254", func := "loop.example/g01347/laws.FnExactValidSieve", spec := "fnExactValidSieve", apart := false }
def FnExactValidSieveSaid : Prop := fnExactValidSieveRow.holds Try.pinned (OpenSpec.ofChange fnExactValidSieveSpec)

/-- ITS FALSE NEIGHBOUR: 'it returns false'. Refute it at one input. -/
def fnExactValidSieveWrong : ChangeSpec := { name := "fnExactValidSieve", fn := fun _ => fun
  | [d] => { results := [.lit (.bool false)], args := [d] }
  | _ => none }
def FnExactValidSieveWrongFalsely : Prop := fnExactValidSieveRow.holds Try.pinned (OpenSpec.ofChange fnExactValidSieveWrong)

/-- 'laws.FnExactNewSieve': WHATEVER THE INPUT: true; the input reads as it did. -/
def fnExactNewSieveSpec : ChangeSpec := { name := "fnExactNewSieve", fn := fun _ => fun
  | [d1, d2, d3] => { results := [.lit (.bool true)], args := [d1, d2, d3] }
  | _ => none }
def fnExactNewSieveRow : OpenClaim := { program := "ytekgohnggnlonaa", sum := "56ac130344e9931c8863fc055577380cf12d95e3bd91bba96ea7860de7d25254", func := "loop.example/g01347/laws.FnExactNewSieve", spec := "fnExactNewSieve", apart := false }
def FnExactNewSieveSaid : Prop := fnExactNewSieveRow.holds Try.pinned (OpenSpec.ofChange fnExactNewSieveSpec)

/-- ITS FALSE NEIGHBOUR: 'it returns false'. Refute it at one input. -/
def fnExactNewSieveWrong : ChangeSpec := { name := "fnExactNewSieve", fn := fun _ => fun
  | [d1, d2, d3] => { results := [.lit (.bool false)], args := [d1, d2, d3] }
  | _ => none }
def FnExactNewSieveWrongFalsely : Prop := fnExactNewSieveRow.holds Try.pinned (OpenSpec.ofChange fnExactNewSieveWrong)

/-- 'laws.FnExactSameSieve': WHATEVER THE INPUT: true; the input reads as it did. -/
def fnExactSameSieveSpec : ChangeSpec := { name := "fnExactSameSieve", fn := fun _ => fun
  | [d1, d2] => { results := [.lit (.bool true)], args := [d1, d2] }
  | _ => none }
def fnExactSameSieveRow : OpenClaim := { program := "ytekgohnggnlonaa", sum := "56ac130344e9931c8863fc055577380cf12d95e3bd91bba96ea7860de7d25254", func := "loop.example/g01347/laws.FnExactSameSieve", spec := "fnExactSameSieve", apart := false }
def FnExactSameSieveSaid : Prop := fnExactSameSieveRow.holds Try.pinned (OpenSpec.ofChange fnExactSameSieveSpec)

/-- ITS FALSE NEIGHBOUR: 'it returns false'. Refute it at one input. -/
def fnExactSameSieveWrong : ChangeSpec := { name := "fnExactSameSieve", fn := fun _ => fun
  | [d1, d2] => { results := [.lit (.bool false)], args := [d1, d2] }
  | _ => none }
def FnExactSameSieveWrongFalsely : Prop := fnExactSameSieveRow.holds Try.pinned (OpenSpec.ofChange fnExactSameSieveWrong)

/-- 'laws.FnExactSameCells': WHATEVER THE INPUT: true; the input reads as it did. -/
def fnExactSameCellsSpec : ChangeSpec := { name := "fnExactSameCells", fn := fun _ => fun
  | [d1, d2] => { results := [.lit (.bool true)], args := [d1, d2] }
  | _ => none }
def fnExactSameCellsRow : OpenClaim := { program := "ytekgohnggnlonaa", sum := "56ac130344e9931c8863fc055577380cf12d95e3bd91bba96ea7860de7d25254", func := "loop.example/g01347/laws.FnExactSameCells", spec := "fnExactSameCells", apart := false }
def FnExactSameCellsSaid : Prop := fnExactSameCellsRow.holds Try.pinned (OpenSpec.ofChange fnExactSameCellsSpec)

/-- ITS FALSE NEIGHBOUR: 'it returns false'. Refute it at one input. -/
def fnExactSameCellsWrong : ChangeSpec := { name := "fnExactSameCells", fn := fun _ => fun
  | [d1, d2] => { results := [.lit (.bool false)], args := [d1, d2] }
  | _ => none }
def FnExactSameCellsWrongFalsely : Prop := fnExactSameCellsRow.holds Try.pinned (OpenSpec.ofChange fnExactSameCellsWrong)

/-- 'laws.FnExactValidTally': WHATEVER THE INPUT: true; the input reads as it did. -/
def fnExactValidTallySpec : ChangeSpec := { name := "fnExactValidTally", fn := fun _ => fun
  | [d] => { results := [.lit (.bool true)], args := [d] }
  | _ => none }
def fnExactValidTallyRow : OpenClaim := { program := "ytekgohnggnlonaa", sum := "56ac130344e9931c8863fc055577380cf12d95e3bd91bba96ea7860de7d25254", func := "loop.example/g01347/laws.FnExactValidTally", spec := "fnExactValidTally", unfollowed := true, recurses := true, apart := false }
def FnExactValidTallySaid : Prop := fnExactValidTallyRow.holds Try.pinned (OpenSpec.ofChange fnExactValidTallySpec)

/-- ITS FALSE NEIGHBOUR: 'it returns false'. Refute it at one input. -/
def fnExactValidTallyWrong : ChangeSpec := { name := "fnExactValidTally", fn := fun _ => fun
  | [d] => { results := [.lit (.bool false)], args := [d] }
  | _ => none }
def FnExactValidTallyWrongFalsely : Prop := fnExactValidTallyRow.holds Try.pinned (OpenSpec.ofChange fnExactValidTallyWrong)

/-- 'laws.FnExactValidCells': WHATEVER THE INPUT: true; the input reads as it did. -/
def fnExactValidCellsSpec : ChangeSpec := { name := "fnExactValidCells", fn := fun _ => fun
  | [d] => { results := [.lit (.bool true)], args := [d] }
  | _ => none }
def fnExactValidCellsRow : OpenClaim := { program := "ytekgohnggnlonaa", sum := "56ac130344e9931c8863fc055577380cf12d95e3bd91bba96ea7860de7d25254", func := "loop.example/g01347/laws.FnExactValidCells", spec := "fnExactValidCells", unfollowed := true, recurses := true, apart := false }
def FnExactValidCellsSaid : Prop := fnExactValidCellsRow.holds Try.pinned (OpenSpec.ofChange fnExactValidCellsSpec)

/-- ITS FALSE NEIGHBOUR: 'it returns false'. Refute it at one input. -/
def fnExactValidCellsWrong : ChangeSpec := { name := "fnExactValidCells", fn := fun _ => fun
  | [d] => { results := [.lit (.bool false)], args := [d] }
  | _ => none }
def FnExactValidCellsWrongFalsely : Prop := fnExactValidCellsRow.holds Try.pinned (OpenSpec.ofChange fnExactValidCellsWrong)

/-- 'laws.FnExactValidFingers': WHATEVER THE INPUT: true; the input reads as it did. -/
def fnExactValidFingersSpec : ChangeSpec := { name := "fnExactValidFingers", fn := fun _ => fun
  | [d] => { results := [.lit (.bool true)], args := [d] }
  | _ => none }
def fnExactValidFingersRow : OpenClaim := { program := "ytekgohnggnlonaa", sum := "56ac130344e9931c8863fc055577380cf12d95e3bd91bba96ea7860de7d25254", func := "loop.example/g01347/laws.FnExactValidFingers", spec := "fnExactValidFingers", unfollowed := true, recurses := true, apart := false }
def FnExactValidFingersSaid : Prop := fnExactValidFingersRow.holds Try.pinned (OpenSpec.ofChange fnExactValidFingersSpec)

/-- ITS FALSE NEIGHBOUR: 'it returns false'. Refute it at one input. -/
def fnExactValidFingersWrong : ChangeSpec := { name := "fnExactValidFingers", fn := fun _ => fun
  | [d] => { results := [.lit (.bool false)], args := [d] }
  | _ => none }
def FnExactValidFingersWrongFalsely : Prop := fnExactValidFingersRow.holds Try.pinned (OpenSpec.ofChange fnExactValidFingersWrong)

/-- 'laws.FnExactValidZeros': WHATEVER THE INPUT: true; the input reads as it did. -/
def fnExactValidZerosSpec : ChangeSpec := { name := "fnExactValidZeros", fn := fun _ => fun
  | [d] => { results := [.lit (.bool true)], args := [d] }
  | _ => none }
def fnExactValidZerosRow : OpenClaim := { program := "ytekgohnggnlonaa", sum := "56ac130344e9931c8863fc055577380cf12d95e3bd91bba96ea7860de7d25254", func := "loop.example/g01347/laws.FnExactValidZeros", spec := "fnExactValidZeros", unfollowed := true, recurses := true, apart := false }
def FnExactValidZerosSaid : Prop := fnExactValidZerosRow.holds Try.pinned (OpenSpec.ofChange fnExactValidZerosSpec)

/-- ITS FALSE NEIGHBOUR: 'it returns false'. Refute it at one input. -/
def fnExactValidZerosWrong : ChangeSpec := { name := "fnExactValidZeros", fn := fun _ => fun
  | [d] => { results := [.lit (.bool false)], args := [d] }
  | _ => none }
def FnExactValidZerosWrongFalsely : Prop := fnExactValidZerosRow.holds Try.pinned (OpenSpec.ofChange fnExactValidZerosWrong)

/-- 'laws.FnExactSameTops': WHATEVER THE INPUT: true; the input reads as it did. -/
def fnExactSameTopsSpec : ChangeSpec := { name := "fnExactSameTops", fn := fun _ => fun
  | [d1, d2] => { results := [.lit (.bool true)], args := [d1, d2] }
  | _ => none }
def fnExactSameTopsRow : OpenClaim := { program := "ytekgohnggnlonaa", sum := "56ac130344e9931c8863fc055577380cf12d95e3bd91bba96ea7860de7d25254", func := "loop.example/g01347/laws.FnExactSameTops", spec := "fnExactSameTops", apart := false }
def FnExactSameTopsSaid : Prop := fnExactSameTopsRow.holds Try.pinned (OpenSpec.ofChange fnExactSameTopsSpec)

/-- ITS FALSE NEIGHBOUR: 'it returns false'. Refute it at one input. -/
def fnExactSameTopsWrong : ChangeSpec := { name := "fnExactSameTops", fn := fun _ => fun
  | [d1, d2] => { results := [.lit (.bool false)], args := [d1, d2] }
  | _ => none }
def FnExactSameTopsWrongFalsely : Prop := fnExactSameTopsRow.holds Try.pinned (OpenSpec.ofChange fnExactSameTopsWrong)

/-- 'laws.FnExactInPeeled': WHATEVER THE INPUT: true; the input reads as it did. -/
def fnExactInPeeledSpec : ChangeSpec := { name := "fnExactInPeeled", fn := fun _ => fun
  | [d1, d2, d3] => { results := [.lit (.bool true)], args := [d1, d2, d3] }
  | _ => none }
def fnExactInPeeledRow : OpenClaim := { program := "ytekgohnggnlonaa", sum := "56ac130344e9931c8863fc055577380cf12d95e3bd91bba96ea7860de7d25254", func := "loop.example/g01347/laws.FnExactInPeeled", spec := "fnExactInPeeled", unfollowed := true, recurses := true, apart := false }
def FnExactInPeeledSaid : Prop := fnExactInPeeledRow.holds Try.pinned (OpenSpec.ofChange fnExactInPeeledSpec)

/-- ITS FALSE NEIGHBOUR: 'it returns false'. Refute it at one input. -/
def fnExactInPeeledWrong : ChangeSpec := { name := "fnExactInPeeled", fn := fun _ => fun
  | [d1, d2, d3] => { results := [.lit (.bool false)], args := [d1, d2, d3] }
  | _ => none }
def FnExactInPeeledWrongFalsely : Prop := fnExactInPeeledRow.holds Try.pinned (OpenSpec.ofChange fnExactInPeeledWrong)

/-- 'laws.FnExactNewCells': WHATEVER THE INPUT: true; the input reads as it did. -/
def fnExactNewCellsSpec : ChangeSpec := { name := "fnExactNewCells", fn := fun _ => fun
  | [d1, d2, d3] => { results := [.lit (.bool true)], args := [d1, d2, d3] }
  | _ => none }
def fnExactNewCellsRow : OpenClaim := { program := "ytekgohnggnlonaa", sum := "56ac130344e9931c8863fc055577380cf12d95e3bd91bba96ea7860de7d25254", func := "loop.example/g01347/laws.FnExactNewCells", spec := "fnExactNewCells", unfollowed := true, recurses := true, apart := false }
def FnExactNewCellsSaid : Prop := fnExactNewCellsRow.holds Try.pinned (OpenSpec.ofChange fnExactNewCellsSpec)

/-- ITS FALSE NEIGHBOUR: 'it returns false'. Refute it at one input. -/
def fnExactNewCellsWrong : ChangeSpec := { name := "fnExactNewCells", fn := fun _ => fun
  | [d1, d2, d3] => { results := [.lit (.bool false)], args := [d1, d2, d3] }
  | _ => none }
def FnExactNewCellsWrongFalsely : Prop := fnExactNewCellsRow.holds Try.pinned (OpenSpec.ofChange fnExactNewCellsWrong)

/-- 'laws.FnExactFullOfSieve': WHATEVER THE INPUT: true; the input reads as it did. -/
def fnExactFullOfSieveSpec : ChangeSpec := { name := "fnExactFullOfSieve", fn := fun _ => fun
  | [d] => { results := [.lit (.bool true)], args := [d] }
  | _ => none }
def fnExactFullOfSieveRow : OpenClaim := { program := "ytekgohnggnlonaa", sum := "56ac130344e9931c8863fc055577380cf12d95e3bd91bba96ea7860de7d25254", func := "loop.example/g01347/laws.FnExactFullOfSieve", spec := "fnExactFullOfSieve", apart := false }
def FnExactFullOfSieveSaid : Prop := fnExactFullOfSieveRow.holds Try.pinned (OpenSpec.ofChange fnExactFullOfSieveSpec)

/-- ITS FALSE NEIGHBOUR: 'it returns false'. Refute it at one input. -/
def fnExactFullOfSieveWrong : ChangeSpec := { name := "fnExactFullOfSieve", fn := fun _ => fun
  | [d] => { results := [.lit (.bool false)], args := [d] }
  | _ => none }
def FnExactFullOfSieveWrongFalsely : Prop := fnExactFullOfSieveRow.holds Try.pinned (OpenSpec.ofChange fnExactFullOfSieveWrong)

/- THE SECOND FORM. 'bulk': how many values and letters a reading holds, each counted each time it is reached (what is shared counts as often as it is met; a slice's spare places count too). A statement '..UptoSaid' is the law's where the arguments, and the package variables that the reading takes, are together of bulk at most 1048576: NARROWER than '..Said'. Prove '..Said' where nothing that the law and all that it calls make is longer than what came in: it says more and counts as full. Else prove '..UptoSaid'. A law counts once. -/
mutual
def uptoBulk {H : Type} : DataW H → Nat
  | .lit (.string bytes) => bytes.length + 1
  | .lit _ => 1
  | .nil => 1
  | .ptr d => uptoBulk d + 1
  | .slice elems spare => uptoBulkAll elems + uptoBulkAll spare + 1
  | .agg parts => uptoBulkAll parts + 1
  | .iface _ d => uptoBulk d + 1
  | .map entries => uptoBulkEntries entries + 1
  | .held _ => 1
def uptoBulkAll {H : Type} : List (DataW H) → Nat
  | [] => 0
  | d :: r => uptoBulk d + uptoBulkAll r
def uptoBulkEntries {H : Type} : List (Lit × DataW H) → Nat
  | [] => 0
  | x :: r => uptoBulkEntry x + uptoBulkEntries r
def uptoBulkEntry {H : Type} : Lit × DataW H → Nat
  | (.string bytes, d) => bytes.length + uptoBulk d + 1
  | (_, d) => uptoBulk d + 1
 end
def uptoSmall : (H : Type) → List (DataW H) → Bool := fun _ ds => decide (uptoBulkAll ds ≤ 1048576)
def OpenSpec.upto (s : _root_.Go.ChangeSpec) : _root_.Go.OpenSpec := { _root_.Go.OpenSpec.ofChange s with cond := some uptoSmall }

/-- 'laws.FnExactValidSieve', WHERE WHAT IT READS IS OF BULK AT MOST 1048576: true; the input reads as it did. -/
def fnExactValidSieveUptoRow : OpenClaim := { program := "ytekgohnggnlonaa", sum := "56ac130344e9931c8863fc055577380cf12d95e3bd91bba96ea7860de7d25254", func := "loop.example/g01347/laws.FnExactValidSieve", spec := "fnExactValidSieve", apart := false, narrowed := true }
def FnExactValidSieveUptoSaid : Prop := fnExactValidSieveUptoRow.holds Try.pinned (OpenSpec.upto fnExactValidSieveSpec)

/-- 'laws.FnExactNewSieve', WHERE WHAT IT READS IS OF BULK AT MOST 1048576: true; the input reads as it did. -/
def fnExactNewSieveUptoRow : OpenClaim := { program := "ytekgohnggnlonaa", sum := "56ac130344e9931c8863fc055577380cf12d95e3bd91bba96ea7860de7d25254", func := "loop.example/g01347/laws.FnExactNewSieve", spec := "fnExactNewSieve", apart := false, narrowed := true }
def FnExactNewSieveUptoSaid : Prop := fnExactNewSieveUptoRow.holds Try.pinned (OpenSpec.upto fnExactNewSieveSpec)

/-- 'laws.FnExactSameSieve', WHERE WHAT IT READS IS OF BULK AT MOST 1048576: true; the input reads as it did. -/
def fnExactSameSieveUptoRow : OpenClaim := { program := "ytekgohnggnlonaa", sum := "56ac130344e9931c8863fc055577380cf12d95e3bd91bba96ea7860de7d25254", func := "loop.example/g01347/laws.FnExactSameSieve", spec := "fnExactSameSieve", apart := false, narrowed := true }
def FnExactSameSieveUptoSaid : Prop := fnExactSameSieveUptoRow.holds Try.pinned (OpenSpec.upto fnExactSameSieveSpec)

/-- 'laws.FnExactSameCells', WHERE WHAT IT READS IS OF BULK AT MOST 1048576: true; the input reads as it did. -/
def fnExactSameCellsUptoRow : OpenClaim := { program := "ytekgohnggnlonaa", sum := "56ac130344e9931c8863fc055577380cf12d95e3bd91bba96ea7860de7d25254", func := "loop.example/g01347/laws.FnExactSameCells", spec := "fnExactSameCells", apart := false, narrowed := true }
def FnExactSameCellsUptoSaid : Prop := fnExactSameCellsUptoRow.holds Try.pinned (OpenSpec.upto fnExactSameCellsSpec)

/-- 'laws.FnExactValidTally', WHERE WHAT IT READS IS OF BULK AT MOST 1048576: true; the input reads as it did. -/
def fnExactValidTallyUptoRow : OpenClaim := { program := "ytekgohnggnlonaa", sum := "56ac130344e9931c8863fc055577380cf12d95e3bd91bba96ea7860de7d25254", func := "loop.example/g01347/laws.FnExactValidTally", spec := "fnExactValidTally", unfollowed := true, recurses := true, apart := false, narrowed := true }
def FnExactValidTallyUptoSaid : Prop := fnExactValidTallyUptoRow.holds Try.pinned (OpenSpec.upto fnExactValidTallySpec)

/-- 'laws.FnExactValidCells', WHERE WHAT IT READS IS OF BULK AT MOST 1048576: true; the input reads as it did. -/
def fnExactValidCellsUptoRow : OpenClaim := { program := "ytekgohnggnlonaa", sum := "56ac130344e9931c8863fc055577380cf12d95e3bd91bba96ea7860de7d25254", func := "loop.example/g01347/laws.FnExactValidCells", spec := "fnExactValidCells", unfollowed := true, recurses := true, apart := false, narrowed := true }
def FnExactValidCellsUptoSaid : Prop := fnExactValidCellsUptoRow.holds Try.pinned (OpenSpec.upto fnExactValidCellsSpec)

/-- 'laws.FnExactValidFingers', WHERE WHAT IT READS IS OF BULK AT MOST 1048576: true; the input reads as it did. -/
def fnExactValidFingersUptoRow : OpenClaim := { program := "ytekgohnggnlonaa", sum := "56ac130344e9931c8863fc055577380cf12d95e3bd91bba96ea7860de7d25254", func := "loop.example/g01347/laws.FnExactValidFingers", spec := "fnExactValidFingers", unfollowed := true, recurses := true, apart := false, narrowed := true }
def FnExactValidFingersUptoSaid : Prop := fnExactValidFingersUptoRow.holds Try.pinned (OpenSpec.upto fnExactValidFingersSpec)

/-- 'laws.FnExactValidZeros', WHERE WHAT IT READS IS OF BULK AT MOST 1048576: true; the input reads as it did. -/
def fnExactValidZerosUptoRow : OpenClaim := { program := "ytekgohnggnlonaa", sum := "56ac130344e9931c8863fc055577380cf12d95e3bd91bba96ea7860de7d25254", func := "loop.example/g01347/laws.FnExactValidZeros", spec := "fnExactValidZeros", unfollowed := true, recurses := true, apart := false, narrowed := true }
def FnExactValidZerosUptoSaid : Prop := fnExactValidZerosUptoRow.holds Try.pinned (OpenSpec.upto fnExactValidZerosSpec)

/-- 'laws.FnExactSameTops', WHERE WHAT IT READS IS OF BULK AT MOST 1048576: true; the input reads as it did. -/
def fnExactSameTopsUptoRow : OpenClaim := { program := "ytekgohnggnlonaa", sum := "56ac130344e9931c8863fc055577380cf12d95e3bd91bba96ea7860de7d25254", func := "loop.example/g01347/laws.FnExactSameTops", spec := "fnExactSameTops", apart := false, narrowed := true }
def FnExactSameTopsUptoSaid : Prop := fnExactSameTopsUptoRow.holds Try.pinned (OpenSpec.upto fnExactSameTopsSpec)

/-- 'laws.FnExactInPeeled', WHERE WHAT IT READS IS OF BULK AT MOST 1048576: true; the input reads as it did. -/
def fnExactInPeeledUptoRow : OpenClaim := { program := "ytekgohnggnlonaa", sum := "56ac130344e9931c8863fc055577380cf12d95e3bd91bba96ea7860de7d25254", func := "loop.example/g01347/laws.FnExactInPeeled", spec := "fnExactInPeeled", unfollowed := true, recurses := true, apart := false, narrowed := true }
def FnExactInPeeledUptoSaid : Prop := fnExactInPeeledUptoRow.holds Try.pinned (OpenSpec.upto fnExactInPeeledSpec)

/-- 'laws.FnExactNewCells', WHERE WHAT IT READS IS OF BULK AT MOST 1048576: true; the input reads as it did. -/
def fnExactNewCellsUptoRow : OpenClaim := { program := "ytekgohnggnlonaa", sum := "56ac130344e9931c8863fc055577380cf12d95e3bd91bba96ea7860de7d25254", func := "loop.example/g01347/laws.FnExactNewCells", spec := "fnExactNewCells", unfollowed := true, recurses := true, apart := false, narrowed := true }
def FnExactNewCellsUptoSaid : Prop := fnExactNewCellsUptoRow.holds Try.pinned (OpenSpec.upto fnExactNewCellsSpec)

/-- 'laws.FnExactFullOfSieve', WHERE WHAT IT READS IS OF BULK AT MOST 1048576: true; the input reads as it did. -/
def fnExactFullOfSieveUptoRow : OpenClaim := { program := "ytekgohnggnlonaa", sum := "56ac130344e9931c8863fc055577380cf12d95e3bd91bba96ea7860de7d25254", func := "loop.example/g01347/laws.FnExactFullOfSieve", spec := "fnExactFullOfSieve", apart := false, narrowed := true }
def FnExactFullOfSieveUptoSaid : Prop := fnExactFullOfSieveUptoRow.holds Try.pinned (OpenSpec.upto fnExactFullOfSieveSpec)

end Rows
end Go.Proofs.Ytekgohnggnlonaa
