/-
  DERIVED. GIVEN WITH THE SEED: THE CARDS: each row of YtbodfepfapjikaaDoorRows.lean that lists a variable, with what it lists TIED to the program's text (the seventh form; the later family's looks); each row that meets fmt, with fmt's text TOLD by the authors' own Lean function (tested against real Go, not proved from fmt's source: count such statements apart). THE CARD IS WHAT COUNTS. Prove the row's statement (the work); the ties are given (YtbodfepfapjikaaDoorTie.lean); close each card by the builder's one call (the guide's Derived/Test/ToyasCard.lean, 'card_holds'). Laid BY PROGRAM, IN A SANDBOX (cutbox-door.mjs). By AI agents, Wed Nov 11 2026. No macro, syntax, notation, axiom, sorry.
-/
import Derived.Test.YtbodfepfapjikaaDoorRows
import GoSem.ClaimSeven
namespace Go.Proofs.YtbodfepfapjikaaDoor
namespace Rows

/-- THE TIED CARD OF 'laws.FnExactKeysOfText'. -/
def fnExactKeysOfTextCard : Claim7 := { stood := { row := fnExactKeysOfTextRow, standIns := [], harness := (true, "5444cf9701c787f86be80bf50412d6b9b43b50ea1db3b7f0ccac44ea9fd36ff8"), looks := false }, kinds := [], alts := [], laidByText := true, laidKinds := [.data, .pinned], laidTests := true, laidLooks := .later }
def FnExactKeysOfTextCardSaid : Prop := Claim7.holds Tryd.pinned (.plain (OpenSpec.ofChange fnExactKeysOfTextSpec)) fnExactKeysOfTextCard

/-- THE TIED CARD OF 'laws.FnWords'. -/
def fnWordsCard : Claim7 := { stood := { row := fnWordsRow, standIns := [], harness := (true, "5444cf9701c787f86be80bf50412d6b9b43b50ea1db3b7f0ccac44ea9fd36ff8"), looks := false }, kinds := [], alts := [], laidByText := true, laidKinds := [.data, .data, .pinned], laidTests := true, laidLooks := .later }
def FnWordsCardSaid : Prop := Claim7.holds Tryd.pinned (.plain (OpenSpec.ofChange fnWordsSpec)) fnWordsCard

/-- THE SECOND FORM's CARD OF 'laws.FnExactKeysOfText'. -/
def fnExactKeysOfTextUptoCard : Claim7 := { stood := { row := fnExactKeysOfTextUptoRow, standIns := [], harness := (true, "5444cf9701c787f86be80bf50412d6b9b43b50ea1db3b7f0ccac44ea9fd36ff8"), looks := false }, kinds := [], alts := [], laidByText := true, laidKinds := [.data, .pinned], laidTests := true, laidLooks := .later }
def FnExactKeysOfTextUptoCardSaid : Prop := Claim7.holds Tryd.pinned (.plain (OpenSpec.upto fnExactKeysOfTextSpec)) fnExactKeysOfTextUptoCard

/-- THE SECOND FORM's CARD OF 'laws.FnWords'. -/
def fnWordsUptoCard : Claim7 := { stood := { row := fnWordsUptoRow, standIns := [], harness := (true, "5444cf9701c787f86be80bf50412d6b9b43b50ea1db3b7f0ccac44ea9fd36ff8"), looks := false }, kinds := [], alts := [], laidByText := true, laidKinds := [.data, .data, .pinned], laidTests := true, laidLooks := .later }
def FnWordsUptoCardSaid : Prop := Claim7.holds Tryd.pinned (.plain (OpenSpec.upto fnWordsSpec)) fnWordsUptoCard
end Rows
end Go.Proofs.YtbodfepfapjikaaDoor
