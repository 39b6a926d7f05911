/- The plain answer to whatever request, by its number. Conditions: typed in each theorem. -/
import Derived.Test.YtnghmgbmflcngaaPln
import Derived.Deep.DeepCutAuto
namespace Go.Proofs.Ytnghmgbmflcngaa
set_option linter.unusedVariables false
open Go.RowKit
def plS (q : RQ) (n : Nat) : Int := if q.bd ≠ 0 then q.bd else if q.op = 7 then 0 else if n % 3 = 0 then 132 else 0
end Go.Proofs.Ytnghmgbmflcngaa
