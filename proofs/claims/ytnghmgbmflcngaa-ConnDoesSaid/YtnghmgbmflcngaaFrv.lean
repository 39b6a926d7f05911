/- What was made is got. Conditions: typed in each theorem. -/
import Derived.Test.YtnghmgbmflcngaaZfri
namespace Go.Proofs.Ytnghmgbmflcngaa
set_option linter.unusedVariables false
open Go.RowKit
end Go.Proofs.Ytnghmgbmflcngaa
