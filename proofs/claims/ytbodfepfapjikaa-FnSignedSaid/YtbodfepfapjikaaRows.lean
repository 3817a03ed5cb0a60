/-
  No cell of these rows narrows 'for every input' (looked for: loops, veiled, ifaces, maps, wideKeys, modest, calm, conditions, laid).
  DERIVED. THE GIVEN ROWS OF THIS SEAT. 10 by the template 'for every input the law returns true; each argument reads behind the call as it read before'; 0 by the template 'total and deterministic' (their statements: YtbodfepfapjikaaTotals.lean).
  GIVEN WITH THE SEED: the statements are not yours to turn. If you find one false, say at which input.
  Laid BY PROGRAM, IN A SANDBOX (cutbox-rows.mjs): the forced cells as the released guide's own fill.sh prints them over the translation d64399e790b14c2c… (all of the seat's roots in one cut). By AI agents, Wed Nov 11 2026. No macro, syntax, notation, axiom, sorry.
-/
import Derived.Test.YtbodfepfapjikaaChecked
import GoSem.Claim
import GoSem.ClaimJoined
import GoSem.ClaimMapViews
import Derived.JoinedTies
import Derived.KernelRfl
namespace Go.Proofs.Ytbodfepfapjikaa
/- THE CELL 'sum', in the pinned program and in every row, IS THE sha256 OF THE DUMP (.gsa) THAT YtbodfepfapjikaaProg.lean LOADS. Nothing in Lean hashes anything: it is a label: what it is worth is what the hold of that sum in a sandbox is worth. -/
noncomputable def Try.pinned : Pinned := { name := "ytbodfepfapjikaa", sum := "d64399e790b14c2c39086f3be3125004b699e79e43d3ba66a0fa1302982dec22", checked := Try.checked }
namespace Rows
def none {H : Type} : Left H := { results := [], args := [] }

/-- 'laws.FnExactExactCounts': WHATEVER THE INPUT: true; the input reads as it did. -/
def fnExactExactCountsSpec : ChangeSpec := { name := "fnExactExactCounts", fn := fun _ => fun
  | [d] => { results := [.lit (.bool true)], args := [d] }
  | _ => none }
def fnExactExactCountsRow : OpenClaim := { program := "ytbodfepfapjikaa", sum := "d64399e790b14c2c39086f3be3125004b699e79e43d3ba66a0fa1302982dec22", func := "loop.example/g01347/laws.FnExactExactCounts", spec := "fnExactExactCounts", unfollowed := true, recurses := true, apart := false }
def FnExactExactCountsSaid : Prop := fnExactExactCountsRow.holds Try.pinned (OpenSpec.ofChange fnExactExactCountsSpec)

/-- ITS FALSE NEIGHBOUR: 'it returns false'. Refute it at one input. -/
def fnExactExactCountsWrong : ChangeSpec := { name := "fnExactExactCounts", fn := fun _ => fun
  | [d] => { results := [.lit (.bool false)], args := [d] }
  | _ => none }
def FnExactExactCountsWrongFalsely : Prop := fnExactExactCountsRow.holds Try.pinned (OpenSpec.ofChange fnExactExactCountsWrong)

/-- 'laws.FnExactValidTops': WHATEVER THE INPUT: true; the input reads as it did. -/
def fnExactValidTopsSpec : ChangeSpec := { name := "fnExactValidTops", fn := fun _ => fun
  | [d] => { results := [.lit (.bool true)], args := [d] }
  | _ => none }
def fnExactValidTopsRow : OpenClaim := { program := "ytbodfepfapjikaa", sum := "d64399e790b14c2c39086f3be3125004b699e79e43d3ba66a0fa1302982dec22", func := "loop.example/g01347/laws.FnExactValidTops", spec := "fnExactValidTops", unfollowed := true, recurses := true, apart := false }
def FnExactValidTopsSaid : Prop := fnExactValidTopsRow.holds Try.pinned (OpenSpec.ofChange fnExactValidTopsSpec)

/-- ITS FALSE NEIGHBOUR: 'it returns false'. Refute it at one input. -/
def fnExactValidTopsWrong : ChangeSpec := { name := "fnExactValidTops", fn := fun _ => fun
  | [d] => { results := [.lit (.bool false)], args := [d] }
  | _ => none }
def FnExactValidTopsWrongFalsely : Prop := fnExactValidTopsRow.holds Try.pinned (OpenSpec.ofChange fnExactValidTopsWrong)

/-- 'laws.FnExactTopBounds': WHATEVER THE INPUT: true; the input reads as it did. -/
def fnExactTopBoundsSpec : ChangeSpec := { name := "fnExactTopBounds", fn := fun _ => fun
  | [d1, d2] => { results := [.lit (.bool true)], args := [d1, d2] }
  | _ => none }
def fnExactTopBoundsRow : OpenClaim := { program := "ytbodfepfapjikaa", sum := "d64399e790b14c2c39086f3be3125004b699e79e43d3ba66a0fa1302982dec22", func := "loop.example/g01347/laws.FnExactTopBounds", spec := "fnExactTopBounds", unfollowed := true, recurses := true, apart := false }
def FnExactTopBoundsSaid : Prop := fnExactTopBoundsRow.holds Try.pinned (OpenSpec.ofChange fnExactTopBoundsSpec)

/-- ITS FALSE NEIGHBOUR: 'it returns false'. Refute it at one input. -/
def fnExactTopBoundsWrong : ChangeSpec := { name := "fnExactTopBounds", fn := fun _ => fun
  | [d1, d2] => { results := [.lit (.bool false)], args := [d1, d2] }
  | _ => none }
def FnExactTopBoundsWrongFalsely : Prop := fnExactTopBoundsRow.holds Try.pinned (OpenSpec.ofChange fnExactTopBoundsWrong)

/-- 'laws.FnExactHeavyTops': WHATEVER THE INPUT: true; the input reads as it did. -/
def fnExactHeavyTopsSpec : ChangeSpec := { name := "fnExactHeavyTops", fn := fun _ => fun
  | [d1, d2] => { results := [.lit (.bool true)], args := [d1, d2] }
  | _ => none }
def fnExactHeavyTopsRow : OpenClaim := { program := "ytbodfepfapjikaa", sum := "d64399e790b14c2c39086f3be3125004b699e79e43d3ba66a0fa1302982dec22", func := "loop.example/g01347/laws.FnExactHeavyTops", spec := "fnExactHeavyTops", unfollowed := true, recurses := true, apart := false }
def FnExactHeavyTopsSaid : Prop := fnExactHeavyTopsRow.holds Try.pinned (OpenSpec.ofChange fnExactHeavyTopsSpec)

/-- ITS FALSE NEIGHBOUR: 'it returns false'. Refute it at one input. -/
def fnExactHeavyTopsWrong : ChangeSpec := { name := "fnExactHeavyTops", fn := fun _ => fun
  | [d1, d2] => { results := [.lit (.bool false)], args := [d1, d2] }
  | _ => none }
def FnExactHeavyTopsWrongFalsely : Prop := fnExactHeavyTopsRow.holds Try.pinned (OpenSpec.ofChange fnExactHeavyTopsWrong)

/-- 'laws.FnExactSignedNorm': WHATEVER THE INPUT: true; the input reads as it did. -/
def fnExactSignedNormSpec : ChangeSpec := { name := "fnExactSignedNorm", fn := fun _ => fun
  | [d] => { results := [.lit (.bool true)], args := [d] }
  | _ => none }
def fnExactSignedNormRow : OpenClaim := { program := "ytbodfepfapjikaa", sum := "d64399e790b14c2c39086f3be3125004b699e79e43d3ba66a0fa1302982dec22", func := "loop.example/g01347/laws.FnExactSignedNorm", spec := "fnExactSignedNorm", unfollowed := true, recurses := true, apart := false }
def FnExactSignedNormSaid : Prop := fnExactSignedNormRow.holds Try.pinned (OpenSpec.ofChange fnExactSignedNormSpec)

/-- ITS FALSE NEIGHBOUR: 'it returns false'. Refute it at one input. -/
def fnExactSignedNormWrong : ChangeSpec := { name := "fnExactSignedNorm", fn := fun _ => fun
  | [d] => { results := [.lit (.bool false)], args := [d] }
  | _ => none }
def FnExactSignedNormWrongFalsely : Prop := fnExactSignedNormRow.holds Try.pinned (OpenSpec.ofChange fnExactSignedNormWrong)

/-- 'laws.FnExactSignedAt': WHATEVER THE INPUT: true; the input reads as it did. -/
def fnExactSignedAtSpec : ChangeSpec := { name := "fnExactSignedAt", fn := fun _ => fun
  | [d1, d2] => { results := [.lit (.bool true)], args := [d1, d2] }
  | _ => none }
def fnExactSignedAtRow : OpenClaim := { program := "ytbodfepfapjikaa", sum := "d64399e790b14c2c39086f3be3125004b699e79e43d3ba66a0fa1302982dec22", func := "loop.example/g01347/laws.FnExactSignedAt", spec := "fnExactSignedAt", unfollowed := true, recurses := true, apart := false }
def FnExactSignedAtSaid : Prop := fnExactSignedAtRow.holds Try.pinned (OpenSpec.ofChange fnExactSignedAtSpec)

/-- ITS FALSE NEIGHBOUR: 'it returns false'. Refute it at one input. -/
def fnExactSignedAtWrong : ChangeSpec := { name := "fnExactSignedAt", fn := fun _ => fun
  | [d1, d2] => { results := [.lit (.bool false)], args := [d1, d2] }
  | _ => none }
def FnExactSignedAtWrongFalsely : Prop := fnExactSignedAtRow.holds Try.pinned (OpenSpec.ofChange fnExactSignedAtWrong)

/-- 'laws.FnExactCorrectedAt': WHATEVER THE INPUT: true; the input reads as it did. -/
def fnExactCorrectedAtSpec : ChangeSpec := { name := "fnExactCorrectedAt", fn := fun _ => fun
  | [d1, d2] => { results := [.lit (.bool true)], args := [d1, d2] }
  | _ => none }
def fnExactCorrectedAtRow : OpenClaim := { program := "ytbodfepfapjikaa", sum := "d64399e790b14c2c39086f3be3125004b699e79e43d3ba66a0fa1302982dec22", func := "loop.example/g01347/laws.FnExactCorrectedAt", spec := "fnExactCorrectedAt", unfollowed := true, recurses := true, apart := false }
def FnExactCorrectedAtSaid : Prop := fnExactCorrectedAtRow.holds Try.pinned (OpenSpec.ofChange fnExactCorrectedAtSpec)

/-- ITS FALSE NEIGHBOUR: 'it returns false'. Refute it at one input. -/
def fnExactCorrectedAtWrong : ChangeSpec := { name := "fnExactCorrectedAt", fn := fun _ => fun
  | [d1, d2] => { results := [.lit (.bool false)], args := [d1, d2] }
  | _ => none }
def FnExactCorrectedAtWrongFalsely : Prop := fnExactCorrectedAtRow.holds Try.pinned (OpenSpec.ofChange fnExactCorrectedAtWrong)

/-- 'laws.FnExactMergeTops': WHATEVER THE INPUT: true; the input reads as it did. -/
def fnExactMergeTopsSpec : ChangeSpec := { name := "fnExactMergeTops", fn := fun _ => fun
  | [d1, d2] => { results := [.lit (.bool true)], args := [d1, d2] }
  | _ => none }
def fnExactMergeTopsRow : OpenClaim := { program := "ytbodfepfapjikaa", sum := "d64399e790b14c2c39086f3be3125004b699e79e43d3ba66a0fa1302982dec22", func := "loop.example/g01347/laws.FnExactMergeTops", spec := "fnExactMergeTops", unfollowed := true, recurses := true, apart := false }
def FnExactMergeTopsSaid : Prop := fnExactMergeTopsRow.holds Try.pinned (OpenSpec.ofChange fnExactMergeTopsSpec)

/-- ITS FALSE NEIGHBOUR: 'it returns false'. Refute it at one input. -/
def fnExactMergeTopsWrong : ChangeSpec := { name := "fnExactMergeTops", fn := fun _ => fun
  | [d1, d2] => { results := [.lit (.bool false)], args := [d1, d2] }
  | _ => none }
def FnExactMergeTopsWrongFalsely : Prop := fnExactMergeTopsRow.holds Try.pinned (OpenSpec.ofChange fnExactMergeTopsWrong)

/-- 'laws.FnHomes': WHATEVER THE INPUT: true; the input reads as it did. -/
def fnHomesSpec : ChangeSpec := { name := "fnHomes", fn := fun _ => fun
  | [d1, d2] => { results := [.lit (.bool true)], args := [d1, d2] }
  | _ => none }
def fnHomesRow : OpenClaim := { program := "ytbodfepfapjikaa", sum := "d64399e790b14c2c39086f3be3125004b699e79e43d3ba66a0fa1302982dec22", func := "loop.example/g01347/laws.FnHomes", spec := "fnHomes", inPlace := ["math.archFloor", "math.Float64bits", "math.Float64frombits", "math.archTrunc"], unfollowed := true, recurses := true, apart := false }
def FnHomesSaid : Prop := fnHomesRow.holds Try.pinned (OpenSpec.ofChange fnHomesSpec)

/-- ITS FALSE NEIGHBOUR: 'it returns false'. Refute it at one input. -/
def fnHomesWrong : ChangeSpec := { name := "fnHomes", fn := fun _ => fun
  | [d1, d2] => { results := [.lit (.bool false)], args := [d1, d2] }
  | _ => none }
def FnHomesWrongFalsely : Prop := fnHomesRow.holds Try.pinned (OpenSpec.ofChange fnHomesWrong)

/-- 'laws.FnSigned': WHATEVER THE INPUT: true; the input reads as it did. -/
def fnSignedSpec : ChangeSpec := { name := "fnSigned", fn := fun _ => fun
  | [d1, d2] => { results := [.lit (.bool true)], args := [d1, d2] }
  | _ => none }
def fnSignedRow : OpenClaim := { program := "ytbodfepfapjikaa", sum := "d64399e790b14c2c39086f3be3125004b699e79e43d3ba66a0fa1302982dec22", func := "loop.example/g01347/laws.FnSigned", spec := "fnSigned", unfollowed := true, recurses := true, apart := false }
def FnSignedSaid : Prop := fnSignedRow.holds Try.pinned (OpenSpec.ofChange fnSignedSpec)

/-- ITS FALSE NEIGHBOUR: 'it returns false'. Refute it at one input. -/
def fnSignedWrong : ChangeSpec := { name := "fnSigned", fn := fun _ => fun
  | [d1, d2] => { results := [.lit (.bool false)], args := [d1, d2] }
  | _ => none }
def FnSignedWrongFalsely : Prop := fnSignedRow.holds Try.pinned (OpenSpec.ofChange fnSignedWrong)

/- THE SECOND FORM. 'bulk': how many values and letters a reading holds, each counted each time it is reached (what is shared counts as often as it is met; a slice's spare places count too). A statement '..UptoSaid' is the law's where the arguments, and the package variables that the reading takes, are together of bulk at most 1048576: NARROWER than '..Said'. Prove '..Said' where nothing that the law and all that it calls make is longer than what came in: it says more and counts as full. Else prove '..UptoSaid'. A law counts once. -/
mutual
def uptoBulk {H : Type} : DataW H → Nat
  | .lit (.string bytes) => bytes.length + 1
  | .lit _ => 1
  | .nil => 1
  | .ptr d => uptoBulk d + 1
  | .slice elems spare => uptoBulkAll elems + uptoBulkAll spare + 1
  | .agg parts => uptoBulkAll parts + 1
  | .iface _ d => uptoBulk d + 1
  | .map entries => uptoBulkEntries entries + 1
  | .held _ => 1
def uptoBulkAll {H : Type} : List (DataW H) → Nat
  | [] => 0
  | d :: r => uptoBulk d + uptoBulkAll r
def uptoBulkEntries {H : Type} : List (Lit × DataW H) → Nat
  | [] => 0
  | x :: r => uptoBulkEntry x + uptoBulkEntries r
def uptoBulkEntry {H : Type} : Lit × DataW H → Nat
  | (.string bytes, d) => bytes.length + uptoBulk d + 1
  | (_, d) => uptoBulk d + 1
 end
def uptoSmall : (H : Type) → List (DataW H) → Bool := fun _ ds => decide (uptoBulkAll ds ≤ 1048576)
def OpenSpec.upto (s : _root_.Go.ChangeSpec) : _root_.Go.OpenSpec := { _root_.Go.OpenSpec.ofChange s with cond := some uptoSmall }

/-- 'laws.FnExactExactCounts', WHERE WHAT IT READS IS OF BULK AT MOST 1048576: true; the input reads as it did. -/
def fnExactExactCountsUptoRow : OpenClaim := { program := "ytbodfepfapjikaa", sum := "d64399e790b14c2c39086f3be3125004b699e79e43d3ba66a0fa1302982dec22", func := "loop.example/g01347/laws.FnExactExactCounts", spec := "fnExactExactCounts", unfollowed := true, recurses := true, apart := false, narrowed := true }
def FnExactExactCountsUptoSaid : Prop := fnExactExactCountsUptoRow.holds Try.pinned (OpenSpec.upto fnExactExactCountsSpec)

/-- 'laws.FnExactValidTops', WHERE WHAT IT READS IS OF BULK AT MOST 1048576: true; the input reads as it did. -/
def fnExactValidTopsUptoRow : OpenClaim := { program := "ytbodfepfapjikaa", sum := "d64399e790b14c2c39086f3be3125004b699e79e43d3ba66a0fa1302982dec22", func := "loop.example/g01347/laws.FnExactValidTops", spec := "fnExactValidTops", unfollowed := true, recurses := true, apart := false, narrowed := true }
def FnExactValidTopsUptoSaid : Prop := fnExactValidTopsUptoRow.holds Try.pinned (OpenSpec.upto fnExactValidTopsSpec)

/-- 'laws.FnExactTopBounds', WHERE WHAT IT READS IS OF BULK AT MOST 1048576: true; the input reads as it did. -/
def fnExactTopBoundsUptoRow : OpenClaim := { program := "ytbodfepfapjikaa", sum := "d64399e790b14c2c39086f3be3125004b699e79e43d3ba66a0fa1302982dec22", func := "loop.example/g01347/laws.FnExactTopBounds", spec := "fnExactTopBounds", unfollowed := true, recurses := true, apart := false, narrowed := true }
def FnExactTopBoundsUptoSaid : Prop := fnExactTopBoundsUptoRow.holds Try.pinned (OpenSpec.upto fnExactTopBoundsSpec)

/-- 'laws.FnExactHeavyTops', WHERE WHAT IT READS IS OF BULK AT MOST 1048576: true; the input reads as it did. -/
def fnExactHeavyTopsUptoRow : OpenClaim := { program := "ytbodfepfapjikaa", sum := "d64399e790b14c2c39086f3be3125004b699e79e43d3ba66a0fa1302982dec22", func := "loop.example/g01347/laws.FnExactHeavyTops", spec := "fnExactHeavyTops", unfollowed := true, recurses := true, apart := false, narrowed := true }
def FnExactHeavyTopsUptoSaid : Prop := fnExactHeavyTopsUptoRow.holds Try.pinned (OpenSpec.upto fnExactHeavyTopsSpec)

/-- 'laws.FnExactSignedNorm', WHERE WHAT IT READS IS OF BULK AT MOST 1048576: true; the input reads as it did. -/
def fnExactSignedNormUptoRow : OpenClaim := { program := "ytbodfepfapjikaa", sum := "d64399e790b14c2c39086f3be3125004b699e79e43d3ba66a0fa1302982dec22", func := "loop.example/g01347/laws.FnExactSignedNorm", spec := "fnExactSignedNorm", unfollowed := true, recurses := true, apart := false, narrowed := true }
def FnExactSignedNormUptoSaid : Prop := fnExactSignedNormUptoRow.holds Try.pinned (OpenSpec.upto fnExactSignedNormSpec)

/-- 'laws.FnExactSignedAt', WHERE WHAT IT READS IS OF BULK AT MOST 1048576: true; the input reads as it did. -/
def fnExactSignedAtUptoRow : OpenClaim := { program := "ytbodfepfapjikaa", sum := "d64399e790b14c2c39086f3be3125004b699e79e43d3ba66a0fa1302982dec22", func := "loop.example/g01347/laws.FnExactSignedAt", spec := "fnExactSignedAt", unfollowed := true, recurses := true, apart := false, narrowed := true }
def FnExactSignedAtUptoSaid : Prop := fnExactSignedAtUptoRow.holds Try.pinned (OpenSpec.upto fnExactSignedAtSpec)

/-- 'laws.FnExactCorrectedAt', WHERE WHAT IT READS IS OF BULK AT MOST 1048576: true; the input reads as it did. -/
def fnExactCorrectedAtUptoRow : OpenClaim := { program := "ytbodfepfapjikaa", sum := "d64399e790b14c2c39086f3be3125004b699e79e43d3ba66a0fa1302982dec22", func := "loop.example/g01347/laws.FnExactCorrectedAt", spec := "fnExactCorrectedAt", unfollowed := true, recurses := true, apart := false, narrowed := true }
def FnExactCorrectedAtUptoSaid : Prop := fnExactCorrectedAtUptoRow.holds Try.pinned (OpenSpec.upto fnExactCorrectedAtSpec)

/-- 'laws.FnExactMergeTops', WHERE WHAT IT READS IS OF BULK AT MOST 1048576: true; the input reads as it did. -/
def fnExactMergeTopsUptoRow : OpenClaim := { program := "ytbodfepfapjikaa", sum := "d64399e790b14c2c39086f3be3125004b699e79e43d3ba66a0fa1302982dec22", func := "loop.example/g01347/laws.FnExactMergeTops", spec := "fnExactMergeTops", unfollowed := true, recurses := true, apart := false, narrowed := true }
def FnExactMergeTopsUptoSaid : Prop := fnExactMergeTopsUptoRow.holds Try.pinned (OpenSpec.upto fnExactMergeTopsSpec)

/-- 'laws.FnHomes', WHERE WHAT IT READS IS OF BULK AT MOST 1048576: true; the input reads as it did. -/
def fnHomesUptoRow : OpenClaim := { program := "ytbodfepfapjikaa", sum := "d64399e790b14c2c39086f3be3125004b699e79e43d3ba66a0fa1302982dec22", func := "loop.example/g01347/laws.FnHomes", spec := "fnHomes", inPlace := ["math.archFloor", "math.Float64bits", "math.Float64frombits", "math.archTrunc"], unfollowed := true, recurses := true, apart := false, narrowed := true }
def FnHomesUptoSaid : Prop := fnHomesUptoRow.holds Try.pinned (OpenSpec.upto fnHomesSpec)

/-- 'laws.FnSigned', WHERE WHAT IT READS IS OF BULK AT MOST 1048576: true; the input reads as it did. -/
def fnSignedUptoRow : OpenClaim := { program := "ytbodfepfapjikaa", sum := "d64399e790b14c2c39086f3be3125004b699e79e43d3ba66a0fa1302982dec22", func := "loop.example/g01347/laws.FnSigned", spec := "fnSigned", unfollowed := true, recurses := true, apart := false, narrowed := true }
def FnSignedUptoSaid : Prop := fnSignedUptoRow.holds Try.pinned (OpenSpec.upto fnSignedSpec)

end Rows
end Go.Proofs.Ytbodfepfapjikaa
