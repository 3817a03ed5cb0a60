/-
  PutLayers of the reference, by contract.
-/
import Derived.Test.YtmafkkpdcajfoaaPutLP
namespace Go.Proofs.Ytmafkkpdcajfoaa
open Go.RowKit
set_option linter.unusedVariables false
set_option linter.unusedSimpArgs false

end Go.Proofs.Ytmafkkpdcajfoaa
