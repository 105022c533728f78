/-
  The contract of Pick; a slice of structs of ints as it comes in. No condition.
-/
import Derived.Test.YtechagciefhpbaaDoorBase
namespace Go.Proofs.YtechagciefhpbaaDoor
set_option linter.unusedSimpArgs false
set_option linter.unusedVariables false
set_option linter.unnecessarySimpa false
open Go.RowKit
end Go.Proofs.YtechagciefhpbaaDoor
