/- Facts of the program that each claim of the seat closes with. Conditions: none. -/
import Derived.Test.YtnghmgbmflcngaaZbas
namespace Go.Proofs.Ytnghmgbmflcngaa
set_option linter.unusedVariables false
theorem clo_heard : Try.pinned.checked.prog.stopsHeard = true := by kernel_rfl
theorem clo_may : Try.pinned.checked.prog.mayEnter = true := by kernel_rfl
theorem clo_lifts : Try.pinned.checked.prog.liftsFinal = false := by kernel_rfl
theorem clo_make : Try.pinned.checked.prog.make = some .cut := by kernel_rfl
end Go.Proofs.Ytnghmgbmflcngaa
