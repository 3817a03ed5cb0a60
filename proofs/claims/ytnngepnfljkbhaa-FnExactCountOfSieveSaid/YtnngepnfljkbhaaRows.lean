/-
  No cell of these rows narrows 'for every input' (looked for: loops, veiled, ifaces, maps, wideKeys, modest, calm, conditions, laid).
  DERIVED. THE GIVEN ROWS OF THIS SEAT. 12 by the template 'for every input the law returns true; each argument reads behind the call as it read before'; 0 by the template 'total and deterministic' (their statements: YtnngepnfljkbhaaTotals.lean).
  GIVEN WITH THE SEED: the statements are not yours to turn. If you find one false, say at which input.
  Laid BY PROGRAM, IN A SANDBOX (cutbox-rows.mjs): the forced cells as the released guide's own fill.sh prints them over the translation 326b23800c173eab… (all of the seat's roots in one cut). By AI agents, Wed Nov 11 2026. No macro, syntax, notation, axiom, sorry.
-/
import Derived.Test.YtnngepnfljkbhaaChecked
import GoSem.Claim
import GoSem.ClaimJoined
import GoSem.ClaimMapViews
import Derived.JoinedTies
import Derived.KernelRfl
namespace Go.Proofs.Ytnngepnfljkbhaa
/- THE CELL 'sum', in the pinned program and in every row, IS THE sha256 OF THE DUMP (.gsa) THAT YtnngepnfljkbhaaProg.lean LOADS. Nothing in Lean hashes anything: it is a label: what it is worth is what the hold of that sum in a sandbox is worth. -/
noncomputable def Try.pinned : Pinned := { name := "ytnngepnfljkbhaa", sum := "326b23800c173eabd0778d695487d11f8efa234b1a24f4e448c61f1845ffbe43", checked := Try.checked }
namespace Rows
def none {H : Type} : Left H := { results := [], args := [] }

/-- 'laws.FnExactFalseShare': WHATEVER THE INPUT: true; the input reads as it did. -/
def fnExactFalseShareSpec : ChangeSpec := { name := "fnExactFalseShare", fn := fun _ => fun
  | [d] => { results := [.lit (.bool true)], args := [d] }
  | _ => none }
def fnExactFalseShareRow : OpenClaim := { program := "ytnngepnfljkbhaa", sum := "326b23800c173eabd0778d695487d11f8efa234b1a24f4e448c61f1845ffbe43", func := "loop.example/g01347/laws.FnExactFalseShare", spec := "fnExactFalseShare", apart := false }
def FnExactFalseShareSaid : Prop := fnExactFalseShareRow.holds Try.pinned (OpenSpec.ofChange fnExactFalseShareSpec)

/-- ITS FALSE NEIGHBOUR: 'it returns false'. Refute it at one input. -/
def fnExactFalseShareWrong : ChangeSpec := { name := "fnExactFalseShare", fn := fun _ => fun
  | [d] => { results := [.lit (.bool false)], args := [d] }
  | _ => none }
def FnExactFalseShareWrongFalsely : Prop := fnExactFalseShareRow.holds Try.pinned (OpenSpec.ofChange fnExactFalseShareWrong)

/-- 'laws.FnExactCellsDot': WHATEVER THE INPUT: true; the input reads as it did. -/
def fnExactCellsDotSpec : ChangeSpec := { name := "fnExactCellsDot", fn := fun _ => fun
  | [d1, d2] => { results := [.lit (.bool true)], args := [d1, d2] }
  | _ => none }
def fnExactCellsDotRow : OpenClaim := { program := "ytnngepnfljkbhaa", sum := "326b23800c173eabd0778d695487d11f8efa234b1a24f4e448c61f1845ffbe43", func := "loop.example/g01347/laws.FnExactCellsDot", spec := "fnExactCellsDot", unfollowed := true, recurses := true, apart := false }
def FnExactCellsDotSaid : Prop := fnExactCellsDotRow.holds Try.pinned (OpenSpec.ofChange fnExactCellsDotSpec)

/-- ITS FALSE NEIGHBOUR: 'it returns false'. Refute it at one input. -/
def fnExactCellsDotWrong : ChangeSpec := { name := "fnExactCellsDot", fn := fun _ => fun
  | [d1, d2] => { results := [.lit (.bool false)], args := [d1, d2] }
  | _ => none }
def FnExactCellsDotWrongFalsely : Prop := fnExactCellsDotRow.holds Try.pinned (OpenSpec.ofChange fnExactCellsDotWrong)

/-- 'laws.FnExactCountOfLeast': WHATEVER THE INPUT: true; the input reads as it did. -/
def fnExactCountOfLeastSpec : ChangeSpec := { name := "fnExactCountOfLeast", fn := fun _ => fun
  | [d1, d2] => { results := [.lit (.bool true)], args := [d1, d2] }
  | _ => none }
def fnExactCountOfLeastRow : OpenClaim := { program := "ytnngepnfljkbhaa", sum := "326b23800c173eabd0778d695487d11f8efa234b1a24f4e448c61f1845ffbe43", func := "loop.example/g01347/laws.FnExactCountOfLeast", spec := "fnExactCountOfLeast", unfollowed := true, recurses := true, apart := false }
def FnExactCountOfLeastSaid : Prop := fnExactCountOfLeastRow.holds Try.pinned (OpenSpec.ofChange fnExactCountOfLeastSpec)

/-- ITS FALSE NEIGHBOUR: 'it returns false'. Refute it at one input. -/
def fnExactCountOfLeastWrong : ChangeSpec := { name := "fnExactCountOfLeast", fn := fun _ => fun
  | [d1, d2] => { results := [.lit (.bool false)], args := [d1, d2] }
  | _ => none }
def FnExactCountOfLeastWrongFalsely : Prop := fnExactCountOfLeastRow.holds Try.pinned (OpenSpec.ofChange fnExactCountOfLeastWrong)

/-- 'laws.FnExactChiOfKeys': WHATEVER THE INPUT: true; the input reads as it did. -/
def fnExactChiOfKeysSpec : ChangeSpec := { name := "fnExactChiOfKeys", fn := fun _ => fun
  | [d1, d2, d3] => { results := [.lit (.bool true)], args := [d1, d2, d3] }
  | _ => none }
def fnExactChiOfKeysRow : OpenClaim := { program := "ytnngepnfljkbhaa", sum := "326b23800c173eabd0778d695487d11f8efa234b1a24f4e448c61f1845ffbe43", func := "loop.example/g01347/laws.FnExactChiOfKeys", spec := "fnExactChiOfKeys", unfollowed := true, recurses := true, apart := false }
def FnExactChiOfKeysSaid : Prop := fnExactChiOfKeysRow.holds Try.pinned (OpenSpec.ofChange fnExactChiOfKeysSpec)

/-- ITS FALSE NEIGHBOUR: 'it returns false'. Refute it at one input. -/
def fnExactChiOfKeysWrong : ChangeSpec := { name := "fnExactChiOfKeys", fn := fun _ => fun
  | [d1, d2, d3] => { results := [.lit (.bool false)], args := [d1, d2, d3] }
  | _ => none }
def FnExactChiOfKeysWrongFalsely : Prop := fnExactChiOfKeysRow.holds Try.pinned (OpenSpec.ofChange fnExactChiOfKeysWrong)

/-- 'laws.FnExactLikeShare': WHATEVER THE INPUT: true; the input reads as it did. -/
def fnExactLikeShareSpec : ChangeSpec := { name := "fnExactLikeShare", fn := fun _ => fun
  | [d1, d2, d3] => { results := [.lit (.bool true)], args := [d1, d2, d3] }
  | _ => none }
def fnExactLikeShareRow : OpenClaim := { program := "ytnngepnfljkbhaa", sum := "326b23800c173eabd0778d695487d11f8efa234b1a24f4e448c61f1845ffbe43", func := "loop.example/g01347/laws.FnExactLikeShare", spec := "fnExactLikeShare", unfollowed := true, recurses := true, apart := false }
def FnExactLikeShareSaid : Prop := fnExactLikeShareRow.holds Try.pinned (OpenSpec.ofChange fnExactLikeShareSpec)

/-- ITS FALSE NEIGHBOUR: 'it returns false'. Refute it at one input. -/
def fnExactLikeShareWrong : ChangeSpec := { name := "fnExactLikeShare", fn := fun _ => fun
  | [d1, d2, d3] => { results := [.lit (.bool false)], args := [d1, d2, d3] }
  | _ => none }
def FnExactLikeShareWrongFalsely : Prop := fnExactLikeShareRow.holds Try.pinned (OpenSpec.ofChange fnExactLikeShareWrong)

/-- 'laws.FnExactNewLayers': WHATEVER THE INPUT: true; the input reads as it did. -/
def fnExactNewLayersSpec : ChangeSpec := { name := "fnExactNewLayers", fn := fun _ => fun
  | [d1, d2, d3] => { results := [.lit (.bool true)], args := [d1, d2, d3] }
  | _ => none }
def fnExactNewLayersRow : OpenClaim := { program := "ytnngepnfljkbhaa", sum := "326b23800c173eabd0778d695487d11f8efa234b1a24f4e448c61f1845ffbe43", func := "loop.example/g01347/laws.FnExactNewLayers", spec := "fnExactNewLayers", unfollowed := true, recurses := true, apart := false }
def FnExactNewLayersSaid : Prop := fnExactNewLayersRow.holds Try.pinned (OpenSpec.ofChange fnExactNewLayersSpec)

/-- ITS FALSE NEIGHBOUR: 'it returns false'. Refute it at one input. -/
def fnExactNewLayersWrong : ChangeSpec := { name := "fnExactNewLayers", fn := fun _ => fun
  | [d1, d2, d3] => { results := [.lit (.bool false)], args := [d1, d2, d3] }
  | _ => none }
def FnExactNewLayersWrongFalsely : Prop := fnExactNewLayersRow.holds Try.pinned (OpenSpec.ofChange fnExactNewLayersWrong)

/-- 'laws.FnExactCountOfSieve': WHATEVER THE INPUT: true; the input reads as it did. -/
def fnExactCountOfSieveSpec : ChangeSpec := { name := "fnExactCountOfSieve", fn := fun _ => fun
  | [d] => { results := [.lit (.bool true)], args := [d] }
  | _ => none }
def fnExactCountOfSieveRow : OpenClaim := { program := "ytnngepnfljkbhaa", sum := "326b23800c173eabd0778d695487d11f8efa234b1a24f4e448c61f1845ffbe43", func := "loop.example/g01347/laws.FnExactCountOfSieve", spec := "fnExactCountOfSieve", inPlace := ["math.Float64frombits", "math.Float64bits"], apart := false }
def FnExactCountOfSieveSaid : Prop := fnExactCountOfSieveRow.holds Try.pinned (OpenSpec.ofChange fnExactCountOfSieveSpec)

/-- ITS FALSE NEIGHBOUR: 'it returns false'. Refute it at one input. -/
def fnExactCountOfSieveWrong : ChangeSpec := { name := "fnExactCountOfSieve", fn := fun _ => fun
  | [d] => { results := [.lit (.bool false)], args := [d] }
  | _ => none }
def FnExactCountOfSieveWrongFalsely : Prop := fnExactCountOfSieveRow.holds Try.pinned (OpenSpec.ofChange fnExactCountOfSieveWrong)

/-- 'laws.FnExactOutFinger': WHATEVER THE INPUT: true; the input reads as it did. -/
def fnExactOutFingerSpec : ChangeSpec := { name := "fnExactOutFinger", fn := fun _ => fun
  | [d1, d2] => { results := [.lit (.bool true)], args := [d1, d2] }
  | _ => none }
def fnExactOutFingerRow : OpenClaim := { program := "ytnngepnfljkbhaa", sum := "326b23800c173eabd0778d695487d11f8efa234b1a24f4e448c61f1845ffbe43", func := "loop.example/g01347/laws.FnExactOutFinger", spec := "fnExactOutFinger", unfollowed := true, recurses := true, apart := false }
def FnExactOutFingerSaid : Prop := fnExactOutFingerRow.holds Try.pinned (OpenSpec.ofChange fnExactOutFingerSpec)

/-- ITS FALSE NEIGHBOUR: 'it returns false'. Refute it at one input. -/
def fnExactOutFingerWrong : ChangeSpec := { name := "fnExactOutFinger", fn := fun _ => fun
  | [d1, d2] => { results := [.lit (.bool false)], args := [d1, d2] }
  | _ => none }
def FnExactOutFingerWrongFalsely : Prop := fnExactOutFingerRow.holds Try.pinned (OpenSpec.ofChange fnExactOutFingerWrong)

/-- 'laws.FnExactPutSigned': WHATEVER THE INPUT: true; the input reads as it did. -/
def fnExactPutSignedSpec : ChangeSpec := { name := "fnExactPutSigned", fn := fun _ => fun
  | [d1, d2, d3] => { results := [.lit (.bool true)], args := [d1, d2, d3] }
  | _ => none }
def fnExactPutSignedRow : OpenClaim := { program := "ytnngepnfljkbhaa", sum := "326b23800c173eabd0778d695487d11f8efa234b1a24f4e448c61f1845ffbe43", func := "loop.example/g01347/laws.FnExactPutSigned", spec := "fnExactPutSigned", unfollowed := true, recurses := true, apart := false }
def FnExactPutSignedSaid : Prop := fnExactPutSignedRow.holds Try.pinned (OpenSpec.ofChange fnExactPutSignedSpec)

/-- ITS FALSE NEIGHBOUR: 'it returns false'. Refute it at one input. -/
def fnExactPutSignedWrong : ChangeSpec := { name := "fnExactPutSigned", fn := fun _ => fun
  | [d1, d2, d3] => { results := [.lit (.bool false)], args := [d1, d2, d3] }
  | _ => none }
def FnExactPutSignedWrongFalsely : Prop := fnExactPutSignedRow.holds Try.pinned (OpenSpec.ofChange fnExactPutSignedWrong)

/-- 'laws.FnExactPutCareful': WHATEVER THE INPUT: true; the input reads as it did. -/
def fnExactPutCarefulSpec : ChangeSpec := { name := "fnExactPutCareful", fn := fun _ => fun
  | [d1, d2, d3] => { results := [.lit (.bool true)], args := [d1, d2, d3] }
  | _ => none }
def fnExactPutCarefulRow : OpenClaim := { program := "ytnngepnfljkbhaa", sum := "326b23800c173eabd0778d695487d11f8efa234b1a24f4e448c61f1845ffbe43", func := "loop.example/g01347/laws.FnExactPutCareful", spec := "fnExactPutCareful", unfollowed := true, recurses := true, apart := false }
def FnExactPutCarefulSaid : Prop := fnExactPutCarefulRow.holds Try.pinned (OpenSpec.ofChange fnExactPutCarefulSpec)

/-- ITS FALSE NEIGHBOUR: 'it returns false'. Refute it at one input. -/
def fnExactPutCarefulWrong : ChangeSpec := { name := "fnExactPutCareful", fn := fun _ => fun
  | [d1, d2, d3] => { results := [.lit (.bool false)], args := [d1, d2, d3] }
  | _ => none }
def FnExactPutCarefulWrongFalsely : Prop := fnExactPutCarefulRow.holds Try.pinned (OpenSpec.ofChange fnExactPutCarefulWrong)

/-- 'laws.FnExactPutLayers': WHATEVER THE INPUT: true; the input reads as it did. -/
def fnExactPutLayersSpec : ChangeSpec := { name := "fnExactPutLayers", fn := fun _ => fun
  | [d1, d2, d3] => { results := [.lit (.bool true)], args := [d1, d2, d3] }
  | _ => none }
def fnExactPutLayersRow : OpenClaim := { program := "ytnngepnfljkbhaa", sum := "326b23800c173eabd0778d695487d11f8efa234b1a24f4e448c61f1845ffbe43", func := "loop.example/g01347/laws.FnExactPutLayers", spec := "fnExactPutLayers", unfollowed := true, recurses := true, apart := false }
def FnExactPutLayersSaid : Prop := fnExactPutLayersRow.holds Try.pinned (OpenSpec.ofChange fnExactPutLayersSpec)

/-- ITS FALSE NEIGHBOUR: 'it returns false'. Refute it at one input. -/
def fnExactPutLayersWrong : ChangeSpec := { name := "fnExactPutLayers", fn := fun _ => fun
  | [d1, d2, d3] => { results := [.lit (.bool false)], args := [d1, d2, d3] }
  | _ => none }
def FnExactPutLayersWrongFalsely : Prop := fnExactPutLayersRow.holds Try.pinned (OpenSpec.ofChange fnExactPutLayersWrong)

/-- 'laws.FnExactHeavyLayers': WHATEVER THE INPUT: true; the input reads as it did. -/
def fnExactHeavyLayersSpec : ChangeSpec := { name := "fnExactHeavyLayers", fn := fun _ => fun
  | [d1, d2] => { results := [.lit (.bool true)], args := [d1, d2] }
  | _ => none }
def fnExactHeavyLayersRow : OpenClaim := { program := "ytnngepnfljkbhaa", sum := "326b23800c173eabd0778d695487d11f8efa234b1a24f4e448c61f1845ffbe43", func := "loop.example/g01347/laws.FnExactHeavyLayers", spec := "fnExactHeavyLayers", unfollowed := true, recurses := true, apart := false }
def FnExactHeavyLayersSaid : Prop := fnExactHeavyLayersRow.holds Try.pinned (OpenSpec.ofChange fnExactHeavyLayersSpec)

/-- ITS FALSE NEIGHBOUR: 'it returns false'. Refute it at one input. -/
def fnExactHeavyLayersWrong : ChangeSpec := { name := "fnExactHeavyLayers", fn := fun _ => fun
  | [d1, d2] => { results := [.lit (.bool false)], args := [d1, d2] }
  | _ => none }
def FnExactHeavyLayersWrongFalsely : Prop := fnExactHeavyLayersRow.holds Try.pinned (OpenSpec.ofChange fnExactHeavyLayersWrong)

/- THE SECOND FORM. 'bulk': how many values and letters a reading holds, each counted each time it is reached (what is shared counts as often as it is met; a slice's spare places count too). A statement '..UptoSaid' is the law's where the arguments, and the package variables that the reading takes, are together of bulk at most 1048576: NARROWER than '..Said'. Prove '..Said' where nothing that the law and all that it calls make is longer than what came in: it says more and counts as full. Else prove '..UptoSaid'. A law counts once. -/
mutual
def uptoBulk {H : Type} : DataW H → Nat
  | .lit (.string bytes) => bytes.length + 1
  | .lit _ => 1
  | .nil => 1
  | .ptr d => uptoBulk d + 1
  | .slice elems spare => uptoBulkAll elems + uptoBulkAll spare + 1
  | .agg parts => uptoBulkAll parts + 1
  | .iface _ d => uptoBulk d + 1
  | .map entries => uptoBulkEntries entries + 1
  | .held _ => 1
def uptoBulkAll {H : Type} : List (DataW H) → Nat
  | [] => 0
  | d :: r => uptoBulk d + uptoBulkAll r
def uptoBulkEntries {H : Type} : List (Lit × DataW H) → Nat
  | [] => 0
  | x :: r => uptoBulkEntry x + uptoBulkEntries r
def uptoBulkEntry {H : Type} : Lit × DataW H → Nat
  | (.string bytes, d) => bytes.length + uptoBulk d + 1
  | (_, d) => uptoBulk d + 1
 end
def uptoSmall : (H : Type) → List (DataW H) → Bool := fun _ ds => decide (uptoBulkAll ds ≤ 1048576)
def OpenSpec.upto (s : _root_.Go.ChangeSpec) : _root_.Go.OpenSpec := { _root_.Go.OpenSpec.ofChange s with cond := some uptoSmall }

/-- 'laws.FnExactFalseShare', WHERE WHAT IT READS IS OF BULK AT MOST 1048576: true; the input reads as it did. -/
def fnExactFalseShareUptoRow : OpenClaim := { program := "ytnngepnfljkbhaa", sum := "326b23800c173eabd0778d695487d11f8efa234b1a24f4e448c61f1845ffbe43", func := "loop.example/g01347/laws.FnExactFalseShare", spec := "fnExactFalseShare", apart := false, narrowed := true }
def FnExactFalseShareUptoSaid : Prop := fnExactFalseShareUptoRow.holds Try.pinned (OpenSpec.upto fnExactFalseShareSpec)

/-- 'laws.FnExactCellsDot', WHERE WHAT IT READS IS OF BULK AT MOST 1048576: true; the input reads as it did. -/
def fnExactCellsDotUptoRow : OpenClaim := { program := "ytnngepnfljkbhaa", sum := "326b23800c173eabd0778d695487d11f8efa234b1a24f4e448c61f1845ffbe43", func := "loop.example/g01347/laws.FnExactCellsDot", spec := "fnExactCellsDot", unfollowed := true, recurses := true, apart := false, narrowed := true }
def FnExactCellsDotUptoSaid : Prop := fnExactCellsDotUptoRow.holds Try.pinned (OpenSpec.upto fnExactCellsDotSpec)

/-- 'laws.FnExactCountOfLeast', WHERE WHAT IT READS IS OF BULK AT MOST 1048576: true; the input reads as it did. -/
def fnExactCountOfLeastUptoRow : OpenClaim := { program := "ytnngepnfljkbhaa", sum := "326b23800c173eabd0778d695487d11f8efa234b1a24f4e448c61f1845ffbe43", func := "loop.example/g01347/laws.FnExactCountOfLeast", spec := "fnExactCountOfLeast", unfollowed := true, recurses := true, apart := false, narrowed := true }
def FnExactCountOfLeastUptoSaid : Prop := fnExactCountOfLeastUptoRow.holds Try.pinned (OpenSpec.upto fnExactCountOfLeastSpec)

/-- 'laws.FnExactChiOfKeys', WHERE WHAT IT READS IS OF BULK AT MOST 1048576: true; the input reads as it did. -/
def fnExactChiOfKeysUptoRow : OpenClaim := { program := "ytnngepnfljkbhaa", sum := "326b23800c173eabd0778d695487d11f8efa234b1a24f4e448c61f1845ffbe43", func := "loop.example/g01347/laws.FnExactChiOfKeys", spec := "fnExactChiOfKeys", unfollowed := true, recurses := true, apart := false, narrowed := true }
def FnExactChiOfKeysUptoSaid : Prop := fnExactChiOfKeysUptoRow.holds Try.pinned (OpenSpec.upto fnExactChiOfKeysSpec)

/-- 'laws.FnExactLikeShare', WHERE WHAT IT READS IS OF BULK AT MOST 1048576: true; the input reads as it did. -/
def fnExactLikeShareUptoRow : OpenClaim := { program := "ytnngepnfljkbhaa", sum := "326b23800c173eabd0778d695487d11f8efa234b1a24f4e448c61f1845ffbe43", func := "loop.example/g01347/laws.FnExactLikeShare", spec := "fnExactLikeShare", unfollowed := true, recurses := true, apart := false, narrowed := true }
def FnExactLikeShareUptoSaid : Prop := fnExactLikeShareUptoRow.holds Try.pinned (OpenSpec.upto fnExactLikeShareSpec)

/-- 'laws.FnExactNewLayers', WHERE WHAT IT READS IS OF BULK AT MOST 1048576: true; the input reads as it did. -/
def fnExactNewLayersUptoRow : OpenClaim := { program := "ytnngepnfljkbhaa", sum := "326b23800c173eabd0778d695487d11f8efa234b1a24f4e448c61f1845ffbe43", func := "loop.example/g01347/laws.FnExactNewLayers", spec := "fnExactNewLayers", unfollowed := true, recurses := true, apart := false, narrowed := true }
def FnExactNewLayersUptoSaid : Prop := fnExactNewLayersUptoRow.holds Try.pinned (OpenSpec.upto fnExactNewLayersSpec)

/-- 'laws.FnExactCountOfSieve', WHERE WHAT IT READS IS OF BULK AT MOST 1048576: true; the input reads as it did. -/
def fnExactCountOfSieveUptoRow : OpenClaim := { program := "ytnngepnfljkbhaa", sum := "326b23800c173eabd0778d695487d11f8efa234b1a24f4e448c61f1845ffbe43", func := "loop.example/g01347/laws.FnExactCountOfSieve", spec := "fnExactCountOfSieve", inPlace := ["math.Float64frombits", "math.Float64bits"], apart := false, narrowed := true }
def FnExactCountOfSieveUptoSaid : Prop := fnExactCountOfSieveUptoRow.holds Try.pinned (OpenSpec.upto fnExactCountOfSieveSpec)

/-- 'laws.FnExactOutFinger', WHERE WHAT IT READS IS OF BULK AT MOST 1048576: true; the input reads as it did. -/
def fnExactOutFingerUptoRow : OpenClaim := { program := "ytnngepnfljkbhaa", sum := "326b23800c173eabd0778d695487d11f8efa234b1a24f4e448c61f1845ffbe43", func := "loop.example/g01347/laws.FnExactOutFinger", spec := "fnExactOutFinger", unfollowed := true, recurses := true, apart := false, narrowed := true }
def FnExactOutFingerUptoSaid : Prop := fnExactOutFingerUptoRow.holds Try.pinned (OpenSpec.upto fnExactOutFingerSpec)

/-- 'laws.FnExactPutSigned', WHERE WHAT IT READS IS OF BULK AT MOST 1048576: true; the input reads as it did. -/
def fnExactPutSignedUptoRow : OpenClaim := { program := "ytnngepnfljkbhaa", sum := "326b23800c173eabd0778d695487d11f8efa234b1a24f4e448c61f1845ffbe43", func := "loop.example/g01347/laws.FnExactPutSigned", spec := "fnExactPutSigned", unfollowed := true, recurses := true, apart := false, narrowed := true }
def FnExactPutSignedUptoSaid : Prop := fnExactPutSignedUptoRow.holds Try.pinned (OpenSpec.upto fnExactPutSignedSpec)

/-- 'laws.FnExactPutCareful', WHERE WHAT IT READS IS OF BULK AT MOST 1048576: true; the input reads as it did. -/
def fnExactPutCarefulUptoRow : OpenClaim := { program := "ytnngepnfljkbhaa", sum := "326b23800c173eabd0778d695487d11f8efa234b1a24f4e448c61f1845ffbe43", func := "loop.example/g01347/laws.FnExactPutCareful", spec := "fnExactPutCareful", unfollowed := true, recurses := true, apart := false, narrowed := true }
def FnExactPutCarefulUptoSaid : Prop := fnExactPutCarefulUptoRow.holds Try.pinned (OpenSpec.upto fnExactPutCarefulSpec)

/-- 'laws.FnExactPutLayers', WHERE WHAT IT READS IS OF BULK AT MOST 1048576: true; the input reads as it did. -/
def fnExactPutLayersUptoRow : OpenClaim := { program := "ytnngepnfljkbhaa", sum := "326b23800c173eabd0778d695487d11f8efa234b1a24f4e448c61f1845ffbe43", func := "loop.example/g01347/laws.FnExactPutLayers", spec := "fnExactPutLayers", unfollowed := true, recurses := true, apart := false, narrowed := true }
def FnExactPutLayersUptoSaid : Prop := fnExactPutLayersUptoRow.holds Try.pinned (OpenSpec.upto fnExactPutLayersSpec)

/-- 'laws.FnExactHeavyLayers', WHERE WHAT IT READS IS OF BULK AT MOST 1048576: true; the input reads as it did. -/
def fnExactHeavyLayersUptoRow : OpenClaim := { program := "ytnngepnfljkbhaa", sum := "326b23800c173eabd0778d695487d11f8efa234b1a24f4e448c61f1845ffbe43", func := "loop.example/g01347/laws.FnExactHeavyLayers", spec := "fnExactHeavyLayers", unfollowed := true, recurses := true, apart := false, narrowed := true }
def FnExactHeavyLayersUptoSaid : Prop := fnExactHeavyLayersUptoRow.holds Try.pinned (OpenSpec.upto fnExactHeavyLayersSpec)

end Rows
end Go.Proofs.Ytnngepnfljkbhaa
