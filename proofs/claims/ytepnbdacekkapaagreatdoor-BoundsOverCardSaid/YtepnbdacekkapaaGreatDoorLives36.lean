/- The examples of chapter 36, run by the kernel. Own work of this seat. -/
import Derived.Test.YtepnbdacekkapaaGreatDoorAiSeat0
namespace Go.Proofs.YtepnbdacekkapaaGreatDoor.Ai
open Go
set_option linter.unusedSimpArgs false
set_option linter.unusedVariables false
set_option maxHeartbeats 4000000
set_option maxRecDepth 100000
theorem lives36 : CallF Cx 14 [] [] (.bool true) [] := closed (n := 1000000) (by kernel_rfl)
end Go.Proofs.YtepnbdacekkapaaGreatDoor.Ai
