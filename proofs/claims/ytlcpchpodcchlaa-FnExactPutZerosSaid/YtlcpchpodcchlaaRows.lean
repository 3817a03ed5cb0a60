/-
  No cell of these rows narrows 'for every input' (looked for: loops, veiled, ifaces, maps, wideKeys, modest, calm, conditions, laid).
  DERIVED. THE GIVEN ROWS OF THIS SEAT. 12 by the template 'for every input the law returns true; each argument reads behind the call as it read before'; 0 by the template 'total and deterministic' (their statements: YtlcpchpodcchlaaTotals.lean).
  GIVEN WITH THE SEED: the statements are not yours to turn. If you find one false, say at which input.
  Laid BY PROGRAM, IN A SANDBOX (cutbox-rows.mjs): the forced cells as the released guide's own fill.sh prints them over the translation bc0b625d42dcb660… (all of the seat's roots in one cut). By AI agents, Wed Nov 11 2026. No macro, syntax, notation, axiom, sorry.
-/
import Derived.Test.YtlcpchpodcchlaaChecked
import GoSem.Claim
import GoSem.ClaimJoined
import GoSem.ClaimMapViews
import Derived.JoinedTies
import Derived.KernelRfl
namespace Go.Proofs.Ytlcpchpodcchlaa
/- THE CELL 'sum', in the pinned program and in every row, IS THE sha256 OF THE DUMP (.gsa) THAT YtlcpchpodcchlaaProg.lean LOADS. Nothing in Lean hashes anything: it is a label: what it is worth is what the hold of that sum in a sandbox is worth. -/
noncomputable def Try.pinned : Pinned := { name := "ytlcpchpodcchlaa", sum := "bc0b625d42dcb66046d58a0f7ac0e355d25e6c56110f1cb6015d889db4cd99c9", checked := Try.checked }
namespace Rows
def none {H : Type} : Left H := { results := [], args := [] }

/-- 'laws.FnExactInPeeled': WHATEVER THE INPUT: true; the input reads as it did. -/
def fnExactInPeeledSpec : ChangeSpec := { name := "fnExactInPeeled", fn := fun _ => fun
  | [d1, d2, d3] => { results := [.lit (.bool true)], args := [d1, d2, d3] }
  | _ => none }
def fnExactInPeeledRow : OpenClaim := { program := "ytlcpchpodcchlaa", sum := "bc0b625d42dcb66046d58a0f7ac0e355d25e6c56110f1cb6015d889db4cd99c9", func := "loop.example/g01347/laws.FnExactInPeeled", spec := "fnExactInPeeled", unfollowed := true, recurses := true, apart := false }
def FnExactInPeeledSaid : Prop := fnExactInPeeledRow.holds Try.pinned (OpenSpec.ofChange fnExactInPeeledSpec)

/-- ITS FALSE NEIGHBOUR: 'it returns false'. Refute it at one input. -/
def fnExactInPeeledWrong : ChangeSpec := { name := "fnExactInPeeled", fn := fun _ => fun
  | [d1, d2, d3] => { results := [.lit (.bool false)], args := [d1, d2, d3] }
  | _ => none }
def FnExactInPeeledWrongFalsely : Prop := fnExactInPeeledRow.holds Try.pinned (OpenSpec.ofChange fnExactInPeeledWrong)

/-- 'laws.FnExactNewCells': WHATEVER THE INPUT: true; the input reads as it did. -/
def fnExactNewCellsSpec : ChangeSpec := { name := "fnExactNewCells", fn := fun _ => fun
  | [d1, d2, d3] => { results := [.lit (.bool true)], args := [d1, d2, d3] }
  | _ => none }
def fnExactNewCellsRow : OpenClaim := { program := "ytlcpchpodcchlaa", sum := "bc0b625d42dcb66046d58a0f7ac0e355d25e6c56110f1cb6015d889db4cd99c9", func := "loop.example/g01347/laws.FnExactNewCells", spec := "fnExactNewCells", unfollowed := true, recurses := true, apart := false }
def FnExactNewCellsSaid : Prop := fnExactNewCellsRow.holds Try.pinned (OpenSpec.ofChange fnExactNewCellsSpec)

/-- ITS FALSE NEIGHBOUR: 'it returns false'. Refute it at one input. -/
def fnExactNewCellsWrong : ChangeSpec := { name := "fnExactNewCells", fn := fun _ => fun
  | [d1, d2, d3] => { results := [.lit (.bool false)], args := [d1, d2, d3] }
  | _ => none }
def FnExactNewCellsWrongFalsely : Prop := fnExactNewCellsRow.holds Try.pinned (OpenSpec.ofChange fnExactNewCellsWrong)

/-- 'laws.FnExactFullOfSieve': WHATEVER THE INPUT: true; the input reads as it did. -/
def fnExactFullOfSieveSpec : ChangeSpec := { name := "fnExactFullOfSieve", fn := fun _ => fun
  | [d] => { results := [.lit (.bool true)], args := [d] }
  | _ => none }
def fnExactFullOfSieveRow : OpenClaim := { program := "ytlcpchpodcchlaa", sum := "bc0b625d42dcb66046d58a0f7ac0e355d25e6c56110f1cb6015d889db4cd99c9", func := "loop.example/g01347/laws.FnExactFullOfSieve", spec := "fnExactFullOfSieve", apart := false }
def FnExactFullOfSieveSaid : Prop := fnExactFullOfSieveRow.holds Try.pinned (OpenSpec.ofChange fnExactFullOfSieveSpec)

/-- ITS FALSE NEIGHBOUR: 'it returns false'. Refute it at one input. -/
def fnExactFullOfSieveWrong : ChangeSpec := { name := "fnExactFullOfSieve", fn := fun _ => fun
  | [d] => { results := [.lit (.bool false)], args := [d] }
  | _ => none }
def FnExactFullOfSieveWrongFalsely : Prop := fnExactFullOfSieveRow.holds Try.pinned (OpenSpec.ofChange fnExactFullOfSieveWrong)

/-- 'laws.FnExactJoinSieves': WHATEVER THE INPUT: true; the input reads as it did. -/
def fnExactJoinSievesSpec : ChangeSpec := { name := "fnExactJoinSieves", fn := fun _ => fun
  | [d1, d2] => { results := [.lit (.bool true)], args := [d1, d2] }
  | _ => none }
def fnExactJoinSievesRow : OpenClaim := { program := "ytlcpchpodcchlaa", sum := "bc0b625d42dcb66046d58a0f7ac0e355d25e6c56110f1cb6015d889db4cd99c9", func := "loop.example/g01347/laws.FnExactJoinSieves", spec := "fnExactJoinSieves", unfollowed := true, recurses := true, apart := false }
def FnExactJoinSievesSaid : Prop := fnExactJoinSievesRow.holds Try.pinned (OpenSpec.ofChange fnExactJoinSievesSpec)

/-- ITS FALSE NEIGHBOUR: 'it returns false'. Refute it at one input. -/
def fnExactJoinSievesWrong : ChangeSpec := { name := "fnExactJoinSieves", fn := fun _ => fun
  | [d1, d2] => { results := [.lit (.bool false)], args := [d1, d2] }
  | _ => none }
def FnExactJoinSievesWrongFalsely : Prop := fnExactJoinSievesRow.holds Try.pinned (OpenSpec.ofChange fnExactJoinSievesWrong)

/-- 'laws.FnExactMeetSieves': WHATEVER THE INPUT: true; the input reads as it did. -/
def fnExactMeetSievesSpec : ChangeSpec := { name := "fnExactMeetSieves", fn := fun _ => fun
  | [d1, d2] => { results := [.lit (.bool true)], args := [d1, d2] }
  | _ => none }
def fnExactMeetSievesRow : OpenClaim := { program := "ytlcpchpodcchlaa", sum := "bc0b625d42dcb66046d58a0f7ac0e355d25e6c56110f1cb6015d889db4cd99c9", func := "loop.example/g01347/laws.FnExactMeetSieves", spec := "fnExactMeetSieves", unfollowed := true, recurses := true, apart := false }
def FnExactMeetSievesSaid : Prop := fnExactMeetSievesRow.holds Try.pinned (OpenSpec.ofChange fnExactMeetSievesSpec)

/-- ITS FALSE NEIGHBOUR: 'it returns false'. Refute it at one input. -/
def fnExactMeetSievesWrong : ChangeSpec := { name := "fnExactMeetSieves", fn := fun _ => fun
  | [d1, d2] => { results := [.lit (.bool false)], args := [d1, d2] }
  | _ => none }
def FnExactMeetSievesWrongFalsely : Prop := fnExactMeetSievesRow.holds Try.pinned (OpenSpec.ofChange fnExactMeetSievesWrong)

/-- 'laws.FnExactJoinZeros': WHATEVER THE INPUT: true; the input reads as it did. -/
def fnExactJoinZerosSpec : ChangeSpec := { name := "fnExactJoinZeros", fn := fun _ => fun
  | [d1, d2] => { results := [.lit (.bool true)], args := [d1, d2] }
  | _ => none }
def fnExactJoinZerosRow : OpenClaim := { program := "ytlcpchpodcchlaa", sum := "bc0b625d42dcb66046d58a0f7ac0e355d25e6c56110f1cb6015d889db4cd99c9", func := "loop.example/g01347/laws.FnExactJoinZeros", spec := "fnExactJoinZeros", unfollowed := true, recurses := true, apart := false }
def FnExactJoinZerosSaid : Prop := fnExactJoinZerosRow.holds Try.pinned (OpenSpec.ofChange fnExactJoinZerosSpec)

/-- ITS FALSE NEIGHBOUR: 'it returns false'. Refute it at one input. -/
def fnExactJoinZerosWrong : ChangeSpec := { name := "fnExactJoinZeros", fn := fun _ => fun
  | [d1, d2] => { results := [.lit (.bool false)], args := [d1, d2] }
  | _ => none }
def FnExactJoinZerosWrongFalsely : Prop := fnExactJoinZerosRow.holds Try.pinned (OpenSpec.ofChange fnExactJoinZerosWrong)

/-- 'laws.FnExactMergeCells': WHATEVER THE INPUT: true; the input reads as it did. -/
def fnExactMergeCellsSpec : ChangeSpec := { name := "fnExactMergeCells", fn := fun _ => fun
  | [d1, d2] => { results := [.lit (.bool true)], args := [d1, d2] }
  | _ => none }
def fnExactMergeCellsRow : OpenClaim := { program := "ytlcpchpodcchlaa", sum := "bc0b625d42dcb66046d58a0f7ac0e355d25e6c56110f1cb6015d889db4cd99c9", func := "loop.example/g01347/laws.FnExactMergeCells", spec := "fnExactMergeCells", unfollowed := true, recurses := true, apart := false }
def FnExactMergeCellsSaid : Prop := fnExactMergeCellsRow.holds Try.pinned (OpenSpec.ofChange fnExactMergeCellsSpec)

/-- ITS FALSE NEIGHBOUR: 'it returns false'. Refute it at one input. -/
def fnExactMergeCellsWrong : ChangeSpec := { name := "fnExactMergeCells", fn := fun _ => fun
  | [d1, d2] => { results := [.lit (.bool false)], args := [d1, d2] }
  | _ => none }
def FnExactMergeCellsWrongFalsely : Prop := fnExactMergeCellsRow.holds Try.pinned (OpenSpec.ofChange fnExactMergeCellsWrong)

/-- 'laws.FnExactInFingers': WHATEVER THE INPUT: true; the input reads as it did. -/
def fnExactInFingersSpec : ChangeSpec := { name := "fnExactInFingers", fn := fun _ => fun
  | [d1, d2] => { results := [.lit (.bool true)], args := [d1, d2] }
  | _ => none }
def fnExactInFingersRow : OpenClaim := { program := "ytlcpchpodcchlaa", sum := "bc0b625d42dcb66046d58a0f7ac0e355d25e6c56110f1cb6015d889db4cd99c9", func := "loop.example/g01347/laws.FnExactInFingers", spec := "fnExactInFingers", unfollowed := true, recurses := true, apart := false }
def FnExactInFingersSaid : Prop := fnExactInFingersRow.holds Try.pinned (OpenSpec.ofChange fnExactInFingersSpec)

/-- ITS FALSE NEIGHBOUR: 'it returns false'. Refute it at one input. -/
def fnExactInFingersWrong : ChangeSpec := { name := "fnExactInFingers", fn := fun _ => fun
  | [d1, d2] => { results := [.lit (.bool false)], args := [d1, d2] }
  | _ => none }
def FnExactInFingersWrongFalsely : Prop := fnExactInFingersRow.holds Try.pinned (OpenSpec.ofChange fnExactInFingersWrong)

/-- 'laws.FnExactOutTally': WHATEVER THE INPUT: true; the input reads as it did. -/
def fnExactOutTallySpec : ChangeSpec := { name := "fnExactOutTally", fn := fun _ => fun
  | [d1, d2] => { results := [.lit (.bool true)], args := [d1, d2] }
  | _ => none }
def fnExactOutTallyRow : OpenClaim := { program := "ytlcpchpodcchlaa", sum := "bc0b625d42dcb66046d58a0f7ac0e355d25e6c56110f1cb6015d889db4cd99c9", func := "loop.example/g01347/laws.FnExactOutTally", spec := "fnExactOutTally", unfollowed := true, recurses := true, apart := false }
def FnExactOutTallySaid : Prop := fnExactOutTallyRow.holds Try.pinned (OpenSpec.ofChange fnExactOutTallySpec)

/-- ITS FALSE NEIGHBOUR: 'it returns false'. Refute it at one input. -/
def fnExactOutTallyWrong : ChangeSpec := { name := "fnExactOutTally", fn := fun _ => fun
  | [d1, d2] => { results := [.lit (.bool false)], args := [d1, d2] }
  | _ => none }
def FnExactOutTallyWrongFalsely : Prop := fnExactOutTallyRow.holds Try.pinned (OpenSpec.ofChange fnExactOutTallyWrong)

/-- 'laws.FnExactPutTally': WHATEVER THE INPUT: true; the input reads as it did. -/
def fnExactPutTallySpec : ChangeSpec := { name := "fnExactPutTally", fn := fun _ => fun
  | [d1, d2] => { results := [.lit (.bool true)], args := [d1, d2] }
  | _ => none }
def fnExactPutTallyRow : OpenClaim := { program := "ytlcpchpodcchlaa", sum := "bc0b625d42dcb66046d58a0f7ac0e355d25e6c56110f1cb6015d889db4cd99c9", func := "loop.example/g01347/laws.FnExactPutTally", spec := "fnExactPutTally", unfollowed := true, recurses := true, apart := false }
def FnExactPutTallySaid : Prop := fnExactPutTallyRow.holds Try.pinned (OpenSpec.ofChange fnExactPutTallySpec)

/-- ITS FALSE NEIGHBOUR: 'it returns false'. Refute it at one input. -/
def fnExactPutTallyWrong : ChangeSpec := { name := "fnExactPutTally", fn := fun _ => fun
  | [d1, d2] => { results := [.lit (.bool false)], args := [d1, d2] }
  | _ => none }
def FnExactPutTallyWrongFalsely : Prop := fnExactPutTallyRow.holds Try.pinned (OpenSpec.ofChange fnExactPutTallyWrong)

/-- 'laws.FnExactPutCells': WHATEVER THE INPUT: true; the input reads as it did. -/
def fnExactPutCellsSpec : ChangeSpec := { name := "fnExactPutCells", fn := fun _ => fun
  | [d1, d2, d3] => { results := [.lit (.bool true)], args := [d1, d2, d3] }
  | _ => none }
def fnExactPutCellsRow : OpenClaim := { program := "ytlcpchpodcchlaa", sum := "bc0b625d42dcb66046d58a0f7ac0e355d25e6c56110f1cb6015d889db4cd99c9", func := "loop.example/g01347/laws.FnExactPutCells", spec := "fnExactPutCells", unfollowed := true, recurses := true, apart := false }
def FnExactPutCellsSaid : Prop := fnExactPutCellsRow.holds Try.pinned (OpenSpec.ofChange fnExactPutCellsSpec)

/-- ITS FALSE NEIGHBOUR: 'it returns false'. Refute it at one input. -/
def fnExactPutCellsWrong : ChangeSpec := { name := "fnExactPutCells", fn := fun _ => fun
  | [d1, d2, d3] => { results := [.lit (.bool false)], args := [d1, d2, d3] }
  | _ => none }
def FnExactPutCellsWrongFalsely : Prop := fnExactPutCellsRow.holds Try.pinned (OpenSpec.ofChange fnExactPutCellsWrong)

/-- 'laws.FnExactPutZeros': WHATEVER THE INPUT: true; the input reads as it did. -/
def fnExactPutZerosSpec : ChangeSpec := { name := "fnExactPutZeros", fn := fun _ => fun
  | [d1, d2] => { results := [.lit (.bool true)], args := [d1, d2] }
  | _ => none }
def fnExactPutZerosRow : OpenClaim := { program := "ytlcpchpodcchlaa", sum := "bc0b625d42dcb66046d58a0f7ac0e355d25e6c56110f1cb6015d889db4cd99c9", func := "loop.example/g01347/laws.FnExactPutZeros", spec := "fnExactPutZeros", unfollowed := true, recurses := true, apart := false }
def FnExactPutZerosSaid : Prop := fnExactPutZerosRow.holds Try.pinned (OpenSpec.ofChange fnExactPutZerosSpec)

/-- ITS FALSE NEIGHBOUR: 'it returns false'. Refute it at one input. -/
def fnExactPutZerosWrong : ChangeSpec := { name := "fnExactPutZeros", fn := fun _ => fun
  | [d1, d2] => { results := [.lit (.bool false)], args := [d1, d2] }
  | _ => none }
def FnExactPutZerosWrongFalsely : Prop := fnExactPutZerosRow.holds Try.pinned (OpenSpec.ofChange fnExactPutZerosWrong)

/- THE SECOND FORM. 'bulk': how many values and letters a reading holds, each counted each time it is reached (what is shared counts as often as it is met; a slice's spare places count too). A statement '..UptoSaid' is the law's where the arguments, and the package variables that the reading takes, are together of bulk at most 1048576: NARROWER than '..Said'. Prove '..Said' where nothing that the law and all that it calls make is longer than what came in: it says more and counts as full. Else prove '..UptoSaid'. A law counts once. -/
mutual
def uptoBulk {H : Type} : DataW H → Nat
  | .lit (.string bytes) => bytes.length + 1
  | .lit _ => 1
  | .nil => 1
  | .ptr d => uptoBulk d + 1
  | .slice elems spare => uptoBulkAll elems + uptoBulkAll spare + 1
  | .agg parts => uptoBulkAll parts + 1
  | .iface _ d => uptoBulk d + 1
  | .map entries => uptoBulkEntries entries + 1
  | .held _ => 1
def uptoBulkAll {H : Type} : List (DataW H) → Nat
  | [] => 0
  | d :: r => uptoBulk d + uptoBulkAll r
def uptoBulkEntries {H : Type} : List (Lit × DataW H) → Nat
  | [] => 0
  | x :: r => uptoBulkEntry x + uptoBulkEntries r
def uptoBulkEntry {H : Type} : Lit × DataW H → Nat
  | (.string bytes, d) => bytes.length + uptoBulk d + 1
  | (_, d) => uptoBulk d + 1
 end
def uptoSmall : (H : Type) → List (DataW H) → Bool := fun _ ds => decide (uptoBulkAll ds ≤ 1048576)
def OpenSpec.upto (s : _root_.Go.ChangeSpec) : _root_.Go.OpenSpec := { _root_.Go.OpenSpec.ofChange s with cond := some uptoSmall }

/-- 'laws.FnExactInPeeled', WHERE WHAT IT READS IS OF BULK AT MOST 1048576: true; the input reads as it did. -/
def fnExactInPeeledUptoRow : OpenClaim := { program := "ytlcpchpodcchlaa", sum := "bc0b625d42dcb66046d58a0f7ac0e355d25e6c56110f1cb6015d889db4cd99c9", func := "loop.example/g01347/laws.FnExactInPeeled", spec := "fnExactInPeeled", unfollowed := true, recurses := true, apart := false, narrowed := true }
def FnExactInPeeledUptoSaid : Prop := fnExactInPeeledUptoRow.holds Try.pinned (OpenSpec.upto fnExactInPeeledSpec)

/-- 'laws.FnExactNewCells', WHERE WHAT IT READS IS OF BULK AT MOST 1048576: true; the input reads as it did. -/
def fnExactNewCellsUptoRow : OpenClaim := { program := "ytlcpchpodcchlaa", sum := "bc0b625d42dcb66046d58a0f7ac0e355d25e6c56110f1cb6015d889db4cd99c9", func := "loop.example/g01347/laws.FnExactNewCells", spec := "fnExactNewCells", unfollowed := true, recurses := true, apart := false, narrowed := true }
def FnExactNewCellsUptoSaid : Prop := fnExactNewCellsUptoRow.holds Try.pinned (OpenSpec.upto fnExactNewCellsSpec)

/-- 'laws.FnExactFullOfSieve', WHERE WHAT IT READS IS OF BULK AT MOST 1048576: true; the input reads as it did. -/
def fnExactFullOfSieveUptoRow : OpenClaim := { program := "ytlcpchpodcchlaa", sum := "bc0b625d42dcb66046d58a0f7ac0e355d25e6c56110f1cb6015d889db4cd99c9", func := "loop.example/g01347/laws.FnExactFullOfSieve", spec := "fnExactFullOfSieve", apart := false, narrowed := true }
def FnExactFullOfSieveUptoSaid : Prop := fnExactFullOfSieveUptoRow.holds Try.pinned (OpenSpec.upto fnExactFullOfSieveSpec)

/-- 'laws.FnExactJoinSieves', WHERE WHAT IT READS IS OF BULK AT MOST 1048576: true; the input reads as it did. -/
def fnExactJoinSievesUptoRow : OpenClaim := { program := "ytlcpchpodcchlaa", sum := "bc0b625d42dcb66046d58a0f7ac0e355d25e6c56110f1cb6015d889db4cd99c9", func := "loop.example/g01347/laws.FnExactJoinSieves", spec := "fnExactJoinSieves", unfollowed := true, recurses := true, apart := false, narrowed := true }
def FnExactJoinSievesUptoSaid : Prop := fnExactJoinSievesUptoRow.holds Try.pinned (OpenSpec.upto fnExactJoinSievesSpec)

/-- 'laws.FnExactMeetSieves', WHERE WHAT IT READS IS OF BULK AT MOST 1048576: true; the input reads as it did. -/
def fnExactMeetSievesUptoRow : OpenClaim := { program := "ytlcpchpodcchlaa", sum := "bc0b625d42dcb66046d58a0f7ac0e355d25e6c56110f1cb6015d889db4cd99c9", func := "loop.example/g01347/laws.FnExactMeetSieves", spec := "fnExactMeetSieves", unfollowed := true, recurses := true, apart := false, narrowed := true }
def FnExactMeetSievesUptoSaid : Prop := fnExactMeetSievesUptoRow.holds Try.pinned (OpenSpec.upto fnExactMeetSievesSpec)

/-- 'laws.FnExactJoinZeros', WHERE WHAT IT READS IS OF BULK AT MOST 1048576: true; the input reads as it did. -/
def fnExactJoinZerosUptoRow : OpenClaim := { program := "ytlcpchpodcchlaa", sum := "bc0b625d42dcb66046d58a0f7ac0e355d25e6c56110f1cb6015d889db4cd99c9", func := "loop.example/g01347/laws.FnExactJoinZeros", spec := "fnExactJoinZeros", unfollowed := true, recurses := true, apart := false, narrowed := true }
def FnExactJoinZerosUptoSaid : Prop := fnExactJoinZerosUptoRow.holds Try.pinned (OpenSpec.upto fnExactJoinZerosSpec)

/-- 'laws.FnExactMergeCells', WHERE WHAT IT READS IS OF BULK AT MOST 1048576: true; the input reads as it did. -/
def fnExactMergeCellsUptoRow : OpenClaim := { program := "ytlcpchpodcchlaa", sum := "bc0b625d42dcb66046d58a0f7ac0e355d25e6c56110f1cb6015d889db4cd99c9", func := "loop.example/g01347/laws.FnExactMergeCells", spec := "fnExactMergeCells", unfollowed := true, recurses := true, apart := false, narrowed := true }
def FnExactMergeCellsUptoSaid : Prop := fnExactMergeCellsUptoRow.holds Try.pinned (OpenSpec.upto fnExactMergeCellsSpec)

/-- 'laws.FnExactInFingers', WHERE WHAT IT READS IS OF BULK AT MOST 1048576: true; the input reads as it did. -/
def fnExactInFingersUptoRow : OpenClaim := { program := "ytlcpchpodcchlaa", sum := "bc0b625d42dcb66046d58a0f7ac0e355d25e6c56110f1cb6015d889db4cd99c9", func := "loop.example/g01347/laws.FnExactInFingers", spec := "fnExactInFingers", unfollowed := true, recurses := true, apart := false, narrowed := true }
def FnExactInFingersUptoSaid : Prop := fnExactInFingersUptoRow.holds Try.pinned (OpenSpec.upto fnExactInFingersSpec)

/-- 'laws.FnExactOutTally', WHERE WHAT IT READS IS OF BULK AT MOST 1048576: true; the input reads as it did. -/
def fnExactOutTallyUptoRow : OpenClaim := { program := "ytlcpchpodcchlaa", sum := "bc0b625d42dcb66046d58a0f7ac0e355d25e6c56110f1cb6015d889db4cd99c9", func := "loop.example/g01347/laws.FnExactOutTally", spec := "fnExactOutTally", unfollowed := true, recurses := true, apart := false, narrowed := true }
def FnExactOutTallyUptoSaid : Prop := fnExactOutTallyUptoRow.holds Try.pinned (OpenSpec.upto fnExactOutTallySpec)

/-- 'laws.FnExactPutTally', WHERE WHAT IT READS IS OF BULK AT MOST 1048576: true; the input reads as it did. -/
def fnExactPutTallyUptoRow : OpenClaim := { program := "ytlcpchpodcchlaa", sum := "bc0b625d42dcb66046d58a0f7ac0e355d25e6c56110f1cb6015d889db4cd99c9", func := "loop.example/g01347/laws.FnExactPutTally", spec := "fnExactPutTally", unfollowed := true, recurses := true, apart := false, narrowed := true }
def FnExactPutTallyUptoSaid : Prop := fnExactPutTallyUptoRow.holds Try.pinned (OpenSpec.upto fnExactPutTallySpec)

/-- 'laws.FnExactPutCells', WHERE WHAT IT READS IS OF BULK AT MOST 1048576: true; the input reads as it did. -/
def fnExactPutCellsUptoRow : OpenClaim := { program := "ytlcpchpodcchlaa", sum := "bc0b625d42dcb66046d58a0f7ac0e355d25e6c56110f1cb6015d889db4cd99c9", func := "loop.example/g01347/laws.FnExactPutCells", spec := "fnExactPutCells", unfollowed := true, recurses := true, apart := false, narrowed := true }
def FnExactPutCellsUptoSaid : Prop := fnExactPutCellsUptoRow.holds Try.pinned (OpenSpec.upto fnExactPutCellsSpec)

/-- 'laws.FnExactPutZeros', WHERE WHAT IT READS IS OF BULK AT MOST 1048576: true; the input reads as it did. -/
def fnExactPutZerosUptoRow : OpenClaim := { program := "ytlcpchpodcchlaa", sum := "bc0b625d42dcb66046d58a0f7ac0e355d25e6c56110f1cb6015d889db4cd99c9", func := "loop.example/g01347/laws.FnExactPutZeros", spec := "fnExactPutZeros", unfollowed := true, recurses := true, apart := false, narrowed := true }
def FnExactPutZerosUptoSaid : Prop := fnExactPutZerosUptoRow.holds Try.pinned (OpenSpec.upto fnExactPutZerosSpec)

end Rows
end Go.Proofs.Ytlcpchpodcchlaa
