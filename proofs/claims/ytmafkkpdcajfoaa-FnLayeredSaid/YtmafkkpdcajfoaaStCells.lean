/-
  The laws' helpers over Cells: size, copy, compare, mark, look for the marks: by contracts. Printed by gen_struct.py.
-/
import Derived.Test.YtmafkkpdcajfoaaHelp
namespace Go.Proofs.Ytmafkkpdcajfoaa
open Go.RowKit

end Go.Proofs.Ytmafkkpdcajfoaa
