import Derived.Test.YtlknmoegngjpcaaGreatFullC
import Derived.Test.YtlknmoegngjpcaaGreatIdxA
set_option linter.unusedSimpArgs false
set_option linter.unusedVariables false

/- fluxionref07.Full. -/
namespace Go.Proofs.YtlknmoegngjpcaaGreat
open Go.RowKit

end Go.Proofs.YtlknmoegngjpcaaGreat
