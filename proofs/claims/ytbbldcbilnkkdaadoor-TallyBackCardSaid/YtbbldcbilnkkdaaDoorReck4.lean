/-
  Sums of layer 2: Merge of the document. No condition.
-/
import Derived.Test.YtbbldcbilnkkdaaDoorReck3
set_option linter.unusedVariables false
set_option linter.unusedSimpArgs false
namespace Go.Proofs.YtbbldcbilnkkdaaDoor.Reck
open Go.RowKit Num Tly Ref K

end Go.Proofs.YtbbldcbilnkkdaaDoor.Reck
