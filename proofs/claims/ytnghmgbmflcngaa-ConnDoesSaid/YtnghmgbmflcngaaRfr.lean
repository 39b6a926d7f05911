/- What an answer's frames are, read one by one. Conditions: typed in each theorem. -/
import Derived.Test.YtnghmgbmflcngaaZrep
import Derived.Test.YtnghmgbmflcngaaFrv
namespace Go.Proofs.Ytnghmgbmflcngaa
set_option linter.unusedVariables false
open Go.RowKit
theorem spB_cons (cb oq : Nat) (p : SP) (Ps : List SP) : spB cb oq (p :: Ps) = p.bytes cb oq ++ spB cb oq Ps := by
  unfold spB
  simp
theorem sp_len (cb oq : Nat) (p : SP) : (p.bytes cb oq).length = 24 + (p.lx.length + p.lk.length + p.lv.length) := by
  unfold SP.bytes
  rw [List.length_append, List.length_append, List.length_append, hdB_length]
  omega
end Go.Proofs.Ytnghmgbmflcngaa
