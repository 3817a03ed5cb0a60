/-
  l00Put of the reference: an element put into an ascending list. Printed by gen_put.py.
-/
import Derived.Test.YtmafkkpdcajfoaaApp
import Derived.Test.YtmafkkpdcajfoaaAsc
namespace Go.Proofs.Ytmafkkpdcajfoaa
open Go.RowKit
set_option linter.unusedVariables false

end Go.Proofs.Ytmafkkpdcajfoaa
