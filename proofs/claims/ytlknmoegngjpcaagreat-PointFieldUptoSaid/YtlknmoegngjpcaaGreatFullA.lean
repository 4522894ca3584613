import Derived.Test.YtlknmoegngjpcaaGreatTenV
import Derived.Test.YtlknmoegngjpcaaGreatFree
set_option linter.unusedSimpArgs false
set_option linter.unusedVariables false

/- Two tensors that have the same limbs: sameRaw, limbs. -/
namespace Go.Proofs.YtlknmoegngjpcaaGreat
open Go.RowKit

end Go.Proofs.YtlknmoegngjpcaaGreat
