/- Requests loaded out of rows, in a region that draws its order. Conditions: typed in each theorem. -/
import Derived.Test.YtnghmgbmflcngaaArq
import Derived.StillTailTactics
namespace Go.Proofs.Ytnghmgbmflcngaa
set_option linter.unusedVariables false
open Go.RowKit
end Go.Proofs.Ytnghmgbmflcngaa
